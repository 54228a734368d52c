/- What was read may be built, just as it was read: in plain lists. -/
import Derived.Test.YtbiplmlkgbicnaaPlain
namespace Go.Proofs.Ytbiplmlkgbicnaa

theorem take_nth (bs : List Int) (k : Nat) (h : k ≤ bs.length) : bs.take k = (List.range k).map (nth bs) := by
  apply List.ext_getElem
  · simp; omega
  · intro i h1 h2
    simp at h1
    have h3 : i < bs.length := by omega
    simp [nth, h3]
theorem pad_take (l : List Int) : (pad l).take l.length = l := by
  unfold pad
  exact List.take_left'  rfl
theorem headOf_length (f : Frm) : (headOf f).length = headLen f.tag := by
  unfold headOf tagBytes headLen
  split <;> simp [two, Ad.list]
theorem two_num {bs : List Int} (h : Bytes bs) (i : Nat) : two (num bs i) = [nth bs i, nth bs (i + 1)] := by
  have a := h.at_ i
  have b := h.at_ (i + 1)
  unfold two num
  congr 1
  · omega
  · congr 1
    omega
theorem head_whole {bs : List Int} (h : Bytes bs) (hl : atOf bs + 2 ≤ bs.length) : headOf (whole bs) = bs.take (atOf bs + 2) := by
  rw [take_nth bs _ hl]
  have n0 := num_bounds h 14
  cases ht : tagged bs with
  | true =>
    have ha : atOf bs = 16 := by simp [atOf, ht]
    have hg : tagOf bs = num bs 14 := by simp [tagOf, ht]
    have hy : typOf bs = num bs 16 := by simp [typOf, ha]
    have h12 : nth bs 12 = 129 ∧ nth bs 13 = 0 := by
      simp [tagged] at ht
      exact ht.2
    unfold headOf whole tagBytes
    rw [hg, hy, ha]
    simp only
    rw [if_pos n0.1, two_num h, two_num h]
    simp [Ad.list, adOf, List.range, List.range.loop, h12.1, h12.2]
  | false =>
    have ha : atOf bs = 12 := by simp [atOf, ht]
    have hg : tagOf bs = -1 := by simp [tagOf, ht]
    have hy : typOf bs = num bs 12 := by simp [typOf, ha]
    unfold headOf whole tagBytes
    rw [hg, hy, ha]
    simp only
    rw [if_neg (by decide), two_num h]
    simp [Ad.list, adOf, List.range, List.range.loop]
theorem data_prefix (bs : List Int) : dataOf bs <+: restOf bs := by
  unfold dataOf
  split
  · exact List.take_prefix _ _
  · exact List.prefix_refl _
theorem headLen_tagOf {bs : List Int} (h : Bytes bs) : headLen (tagOf bs) = atOf bs + 2 := by
  have n0 := num_bounds h 14
  unfold headLen tagOf atOf
  cases tagged bs with
  | true => simp [n0.1]
  | false => simp

/-- The bytes of a frame that was read stand where they stood. -/
theorem again {bs : List Int} (h : Bytes bs) (he : parseE bs = 0) {H : Nat} (hH : H = headLen (whole bs).tag + (whole bs).data.length) :
    H ≤ bs.length ∧ H ≤ (built (whole bs)).length ∧ (built (whole bs)).take H = bs.take H ∧ (1536 ≤ (whole bs).typ → H = bs.length) := by
  obtain ⟨h1, h2, h3, h4, h5⟩ := parseE_ok he
  have e1 : headLen (whole bs).tag = atOf bs + 2 := headLen_tagOf h
  have e2 : (whole bs).data = dataOf bs := rfl
  have e3 : (restOf bs).length = bs.length - (atOf bs + 2) := by unfold restOf; rw [List.length_drop]
  have e4 := (data_prefix bs).length_le
  rw [e1, e2] at hH
  refine ⟨by omega, by rw [built_length, e1, e2]; omega, ?_, ?_⟩
  · have e5 : H = (headOf (whole bs) ++ (whole bs).data).length := by rw [List.length_append, headOf_length, e1, e2, hH]
    have e6 : (built (whole bs)).take H = headOf (whole bs) ++ (whole bs).data := by
      rw [e5]
      exact pad_take _
    have e9 : dataOf bs = (bs.drop (atOf bs + 2)).take (dataOf bs).length := List.prefix_iff_eq_take.1 (data_prefix bs)
    have e8 : bs.take (atOf bs + 2 + (dataOf bs).length) = bs.take (atOf bs + 2) ++ (bs.drop (atOf bs + 2)).take (dataOf bs).length := List.take_add
    rw [e6, head_whole h h1, e2, hH, e8, ← e9]
  · intro h6
    have h7 : 1536 ≤ typOf bs := h6
    have e7 : dataOf bs = restOf bs := by unfold dataOf; rw [if_neg (by omega)]
    rw [hH, e7, e3]
    omega

end Go.Proofs.Ytbiplmlkgbicnaa
