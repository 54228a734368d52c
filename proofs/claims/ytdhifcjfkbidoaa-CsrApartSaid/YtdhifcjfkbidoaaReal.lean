/- The law's own kinds; the document's example. -/
import Derived.Test.YtdhifcjfkbidoaaNew
set_option linter.unusedVariables false
namespace Go.Proofs.Ytdhifcjfkbidoaa
open Go.RowKit Go.Proofs.YtdhifcjfkbidoaaW.PrintWords

theorem Try.info41 : (Try.prog.info? 41).map (fun i => (i.zero, i.size, i.bytes)) = some (some (.agg #[.int .u32 0, .int .u32 0, .int .u32 0]), 3, 12) := by kernel_rfl

def kindCells (ks : List Kd) : List Value := ks.flatMap fun k => [.int .u32 k.r, .int .u32 k.p, .int .u32 k.c]
theorem kindCells_snoc (ks : List Kd) (k : Kd) : kindCells (ks ++ [k]) = kindCells ks ++ [.int .u32 k.r, .int .u32 k.p, .int .u32 k.c] := by simp [kindCells]
theorem kindCells_get : ∀ (ks : List Kd) (i : Nat) (k : Kd), ks[i]? = some k → (kindCells ks)[i * 3]? = some (.int .u32 k.r) ∧ (kindCells ks)[i * 3 + 1]? = some (.int .u32 k.p) ∧ (kindCells ks)[i * 3 + 2]? = some (.int .u32 k.c)
  | [], i, k, h => by simp at h
  | k0 :: ks, 0, k, h => by
    simp at h
    subst h
    exact ⟨rfl, rfl, rfl⟩
  | k0 :: ks, i + 1, k, h => by
    have ih := kindCells_get ks i k (by simpa using h)
    have e : ∀ j, (kindCells (k0 :: ks))[(i + 1) * 3 + j]? = (kindCells ks)[i * 3 + j]? := fun j => by
      rw [show kindCells (k0 :: ks) = [.int .u32 k0.r, .int .u32 k0.p, .int .u32 k0.c] ++ kindCells ks from rfl, List.getElem?_append_right (by simp; omega)]
      congr 1
      simp
      omega
    exact ⟨(e 0).trans ih.1, (e 1).trans ih.2.1, (e 2).trans ih.2.2⟩
theorem kinds_of_row {w : World} {base : Nat} {A : Option Addr} {c : Nat} {ks : List Kd} (h : QRow w base 41 3 (.slice A ks.length c) ks.length (kindCells ks)) : KindsAt w A ks := by
  intro i k hk
  have hil := (List.getElem?_eq_some_iff.1 hk).1
  obtain ⟨g, o, c', hv, _, _, hg, hc⟩ := q_form h (by omega)
  injection hv with hA _ _
  obtain ⟨a0, a1, a2⟩ := kindCells_get ks i k hk
  exact ⟨g, o, hA, hg, hc _ _ a0, hc _ _ a1, hc _ _ a2⟩

set_option maxHeartbeats 1000000 in
theorem real_law (A : Option Addr) (cap : Nat) (ks : List Kd) (w : World) (hk : KindsAt w A ks) (hz : ks.length * 12 ≤ 140737488351232) :
    Calls Try.prog 11 #[.slice A ks.length cap] w fun e w' => Turns nobody w w' ∧ ∃ A' c', e = .returned (.slice A' ks.length c') ∧ KindsAt w' A' ks := by
  obtain ⟨i0, hi, hz0, hz1, hz2⟩ := info_parts Try.info41
  have hkk : Hid (KindsAt w A ks) := hide hk
  have hle := hz
  clear hk
  go_enter Try.func11, Try.ntmps11
  go_wp2_with fail
  have q0 : QRow w w.heap.size 41 3 (.slice none 0 0) 0 (kindCells (ks.take 0)) := q_of_own (World.ownsRow_nil _ _ _ _)
  go_loopw [3, 4] (fun s i wr => ∃ k : Nat, k ≤ ks.length ∧ i = .int .i64 k ∧ QRow wr w.heap.size 41 3 s k (kindCells (ks.take k)) ∧ Turns nobody w wr) (fun _ i _ => ks.length - (intOf i).toNat)
  case atStart => exact ⟨0, Nat.zero_le _, rfl, q0, Turns.refl _ _⟩
  case round =>
    clear q0
    obtain ⟨k, hle2, rfl, q1, k1⟩ := hrel
    by_cases hlt : k < ks.length
    · obtain ⟨x, hx⟩ : ∃ x, ks[k]? = some x := ⟨_, List.getElem?_eq_getElem hlt⟩
      obtain ⟨b, o, rfl, hb, c0, c1, c2⟩ := (hkk.out.still k1) k x hx
      have i00 : (0 : Int) ≤ (k : Int) := by omega
      have i1 : (k : Int) < (ks.length : Int) := by omega
      obtain ⟨A', c', rfl, hnc⟩ := q_slice q1
      have own : Hid (QRow ((wr.alloc (.cells #[.int .u32 x.r, .int .u32 x.p, .int .u32 x.c] 41)).drew) w.heap.size 41 3 (.slice A' k c') k (kindCells (ks.take k))) :=
        qrow_turns q1 ((Turns.refl nobody wr).alloc _).drew (fun _ _ hh => hh.elim)
      have news : Hid (∀ j u', [Value.int .u32 x.r, .int .u32 x.p, .int .u32 x.c][j]? = some u' → ((wr.alloc (.cells #[.int .u32 x.r, .int .u32 x.p, .int .u32 x.c] 41)).drew).cell? ((⟨wr.heap.size, 0, none⟩ : Addr).add j) = some u') := by
        have B := Blk.new wr #[.int .u32 x.r, .int .u32 x.p, .int .u32 x.c] 41
        exact fun j u' hj => World.news_of_block (w := _) (fr := (0, 0)) B j u' (by simpa using hj)
      have one : Hid (∀ u' ∈ [Value.int .u32 x.r, .int .u32 x.p, .int .u32 x.c], u'.oneCell' = true) := by
        intro u' hu
        simp at hu
        rcases hu with rfl | rfl | rfl
        all_goals rfl
      have b1 : Hid (k + 1 ≤ maxLen) := by unfold maxLen; exact hide (by omega)
      have b2 : Hid ((k + 1) * 12 ≤ 140737488355328) := hide (by omega)
      have ksz := k1.size
      have bb : Hid (w.heap.size ≤ ((wr.alloc (.cells #[.int .u32 x.r, .int .u32 x.p, .int .u32 x.c] 41)).drew).heap.size) := hide (by simp; omega)
      go_wp2_with fail
      go_region_law ((refine step_q_append rfl (.tmp 11) (.tmp 28) 31 rfl w.heap.size 41 i0 (.agg #[.int .u32 0, .int .u32 0, .int .u32 0]) 3 12 Try.underlying31 hi hz0 hz1 hz2 rfl (by decide) (.slice A' k c') k (kindCells (ks.take k)) (by simp [Act.eval]) own.out ⟨wr.heap.size, 0, none⟩ 1 1 [.int .u32 x.r, .int .u32 x.p, .int .u32 x.c] (by simp [Act.eval]) rfl news.out one.out (by decide) b1.out b2.out bb.out ?_; intro g off cap w1 hq hgr hat))
      all_goals
        go_wp2_with fail
        go_roundw
        case rel =>
          refine ⟨k + 1, by omega, by go_num, ?_, ?_⟩
          · rw [List.take_add_one, hx]
            simp only [Option.toList]
            rw [kindCells_snoc]
            exact hq
          · exact Turns.step (k1.alloc _).drew (Turns.of_grown hgr) (fun i hi => .inr (q_typed q1 i hi).1)
        case measure => simp [intOf]; omega
    · obtain rfl : k = ks.length := by omega
      obtain ⟨A', c', rfl, hnc⟩ := q_slice q1
      go_wp2_with fail
      go_returns
      rw [List.take_length] at q1
      exact ⟨(by repeat' (first | exact Turns.refl _ _ | assumption | exact Or.inl rfl | exact Or.inr (Nat.le_refl _) | apply Turns.alloc | apply Turns.drew | apply Turns.drewN | apply Turns.setCell | (apply Or.inr; simp; done) | (apply Or.inr; simp; omega) | exact fun _ hh => False.elim hh | exact fun _ hh => Or.inl hh | (intro i hi; right; (try simp only at hi); omega) | (intro i hi; right; simp at hi; omega) | refine Turns.step ?_ (by assumption) ?_)), A', c', rfl, kinds_of_row q1⟩

theorem FAt.eq {w : World} {base b g o cap : Nat} {rs rs' : List Reg} (h : FAt w base b g o cap rs) (e : rs = rs') : FAt w base b g o cap rs' := e ▸ h

set_option maxHeartbeats 1000000 in
theorem shown_at (w : World) : Calls Try.prog 9 #[] w fun e w' => e = .returned (.bool true) ∧ Turns nobody w w' := by
  have hk : KindsAt (w.alloc (.cells #[.int .u32 0, .int .u32 0, .int .u32 15, .int .u32 0, .int .u32 255, .int .u32 0] 41)) (some ⟨w.heap.size, 0, none⟩) [⟨0, 0, 15⟩, ⟨0, 255, 0⟩] := by
    have B := Blk.new w #[.int .u32 0, .int .u32 0, .int .u32 15, .int .u32 0, .int .u32 255, .int .u32 0] 41
    intro i k hk
    match i, hk with
    | 0, hk => simp at hk; subst hk; exact ⟨_, _, rfl, B.lt, B.cell 0, B.cell 1, B.cell 2⟩
    | 1, hk => simp at hk; subst hk; exact ⟨_, _, rfl, B.lt, B.cell 3, B.cell 4, B.cell 5⟩
  go_enter Try.func9, Try.ntmps9
  go_wp2_with fail
  refine (new_law _ _ [⟨0, 0, 15⟩, ⟨0, 255, 0⟩] _ hk (by decide) (by decide)).mono ?_
  rintro e w1 ⟨k1, ⟨_, x, hx, hbad⟩ | ⟨_, b, g, o, c, rfl, F⟩⟩
  · simp at hx
    rcases hx with rfl | rfl <;> exact absurd (by decide) hbad
  · have hb := F.bb
    have hg := F.bg
    simp only [World.size_alloc] at hb hg
    have F : FAt w1 w.heap.size b g o c [⟨0, 0, 15, 0⟩, ⟨0, 255, 0, 0⟩] := F.weaken (by simp)
    have K1 : Turns nobody w w1 := (by repeat' (first | exact Turns.refl _ _ | assumption | exact Or.inl rfl | exact Or.inr (Nat.le_refl _) | apply Turns.alloc | apply Turns.drew | apply Turns.drewN | apply Turns.setCell | (apply Or.inr; simp; done) | (apply Or.inr; simp; omega) | exact fun _ hh => False.elim hh | exact fun _ hh => Or.inl hh | (intro i hi; right; (try simp only at hi); omega) | (intro i hi; right; simp at hi; omega) | refine Turns.step ?_ (by assumption) ?_))
    clear hk
    go_wp2_with fail
    refine (raise_at F 0 (r := ⟨0, 0, 15, 0⟩) rfl 6).mono ?_
    rintro e w2 ⟨rfl, F2, k2⟩
    have F2 : FAt w2 w.heap.size b g o c [⟨0, 0, 15, 6⟩, ⟨0, 255, 0, 0⟩] := by
      exact F2.eq (by decide +kernel)
    go_wp2_with fail
    refine (write_at F2 0 (r := ⟨0, 0, 15, 6⟩) rfl 2).mono ?_
    rintro e w3 ⟨rfl, F3, k3⟩
    have F3 : FAt w3 w.heap.size b g o c [⟨0, 0, 15, 4⟩, ⟨0, 255, 0, 0⟩] := by
      exact F3.eq (by decide +kernel)
    go_wp2_with fail
    refine (write_at F3 1 (r := ⟨0, 255, 0, 0⟩) rfl 511).mono ?_
    rintro e w4 ⟨rfl, F4, k4⟩
    have F4 : FAt w4 w.heap.size b g o c [⟨0, 0, 15, 4⟩, ⟨0, 255, 0, 255⟩] := by
      exact F4.eq (by decide +kernel)
    go_wp2_with fail
    refine (get_at F4 0 (r := ⟨0, 0, 15, 4⟩) rfl).mono ?_
    rintro e w5 ⟨rfl, k5⟩
    have F5 := F4.still k5
    go_wp2_with fail
    refine (get_at F5 1 (r := ⟨0, 255, 0, 255⟩) rfl).mono ?_
    rintro e w6 ⟨rfl, k6⟩
    have K6 : Turns nobody w w6 := by
      refine Turns.step (Turns.step (Turns.step K1 k2 ?_) k3 ?_) k4 ?_ |>.trans (k5.trans k6)
      all_goals (intro i hi; right; (try simp only at hi); omega)
    go_wp2_with fail
    go_returns
    exact ⟨rfl, K6⟩

end Go.Proofs.Ytdhifcjfkbidoaa
