/- What a value that reads at a type looks like: words of this seat's proofs. Conditions: none. -/
import Derived.ProofKit
import Derived.OpenShut
import Derived.Deep.Slices
namespace Go.Proofs.Ytbiplmlkgbicnaa
open Go.RowKit

/-- The cells cs fit type t. -/
def Fits (P : Program) (w : World) : Nat → TypeId → List Value → Prop
  | 0, _, _ => False
  | n + 1, t, cs => match P.underlying t with
    | some .bool => ∃ b, cs = [.bool b]
    | some (.int k) => ∃ x, cs = [.int k x] ∧ (Lit.int k x).wf = true
    | some .string => ∃ s : ByteArray, cs = [.string s] ∧ s.size ≤ maxLen
    | some (.slice e) => ∃ A len cap, cs = [.slice A len cap] ∧ len ≤ cap ∧ cap ≤ maxLen ∧ (A = none → cap = 0) ∧
        (0 < P.cellsOf e → ∀ i, i < len → ∃ b o xs, A = some ⟨b, o, none⟩ ∧ (∀ j u, xs[j]? = some u → w.cell? ⟨b, o + i * P.cellsOf e + j, none⟩ = some u) ∧ Fits P w n e xs)
    | some (.struct fs) => cs.length = P.cellsOf t ∧ ∀ (i : Nat) (f : Field), fs[i]? = some f → Fits P w n f.type ((cs.drop f.offset).take (P.cellsOf f.type))
    | some (.array m e) => cs.length = P.cellsOf t ∧ ∀ i, i < m → Fits P w n e ((cs.drop (i * P.cellsOf e)).take (P.cellsOf e))
    | _ => True

theorem Fits.pos {P : Program} {w : World} {n : Nat} {t : TypeId} {cs : List Value} (h : Fits P w n t cs) : ∃ m, n = m + 1 := by
  cases n with
  | zero => exact h.elim
  | succ m => exact ⟨m, rfl⟩
theorem Fits.int {P : Program} {w : World} {n : Nat} {t : TypeId} {cs : List Value} {k : IntKind} (h : Fits P w n t cs) (ht : P.underlying t = some (.int k)) : ∃ x, cs = [.int k x] ∧ (Lit.int k x).wf = true := by
  obtain ⟨m, rfl⟩ := h.pos
  unfold Fits at h
  rw [ht] at h
  exact h
theorem Fits.bool {P : Program} {w : World} {n : Nat} {t : TypeId} {cs : List Value} (h : Fits P w n t cs) (ht : P.underlying t = some .bool) : ∃ b, cs = [.bool b] := by
  obtain ⟨m, rfl⟩ := h.pos
  unfold Fits at h
  rw [ht] at h
  exact h
theorem Fits.slice {P : Program} {w : World} {n : Nat} {t e : TypeId} {cs : List Value} (h : Fits P w n t cs) (ht : P.underlying t = some (.slice e)) (hc : 0 < P.cellsOf e) :
    ∃ A len cap, cs = [.slice A len cap] ∧ len ≤ cap ∧ cap ≤ maxLen ∧ (A = none → cap = 0) ∧
        ∀ i, i < len → ∃ b o xs m, A = some ⟨b, o, none⟩ ∧ (∀ j u, xs[j]? = some u → w.cell? ⟨b, o + i * P.cellsOf e + j, none⟩ = some u) ∧ Fits P w m e xs := by
  obtain ⟨m, rfl⟩ := h.pos
  unfold Fits at h
  rw [ht] at h
  obtain ⟨A, len, cap, h1, h2, h3, h0, h4⟩ := h
  refine ⟨A, len, cap, h1, h2, h3, h0, fun i hi => ?_⟩
  obtain ⟨b, o, xs, h5, h6, h7⟩ := h4 hc i hi
  exact ⟨b, o, xs, m, h5, h6, h7⟩
theorem Fits.struct {P : Program} {w : World} {n : Nat} {t : TypeId} {fs : Array Field} {cs : List Value} (h : Fits P w n t cs) (ht : P.underlying t = some (.struct fs)) :
    cs.length = P.cellsOf t ∧ ∀ (i : Nat) (f : Field), fs[i]? = some f → ∃ m, Fits P w m f.type ((cs.drop f.offset).take (P.cellsOf f.type)) := by
  obtain ⟨m, rfl⟩ := h.pos
  unfold Fits at h
  rw [ht] at h
  exact ⟨h.1, fun i f hf => ⟨m, h.2 i f hf⟩⟩
theorem Fits.array {P : Program} {w : World} {n k : Nat} {t e : TypeId} {cs : List Value} (h : Fits P w n t cs) (ht : P.underlying t = some (.array k e)) :
    cs.length = P.cellsOf t ∧ ∀ i, i < k → ∃ m, Fits P w m e ((cs.drop (i * P.cellsOf e)).take (P.cellsOf e)) := by
  obtain ⟨m, rfl⟩ := h.pos
  unfold Fits at h
  rw [ht] at h
  exact ⟨h.1, fun i hi => ⟨m, h.2 i hi⟩⟩

theorem fits_of_trod {H : Type} {enc : TypeId × Value → H} {P : Program} {w : World} {base : Nat} {spare : Nat → Bool} {held : Bool} :
    ∀ (fuel : Nat) (t : TypeId) (cs : List Value) (x : DataW H × List MemPlace), DataW.trod enc P w base spare held fuel t cs = some x → Fits P w fuel t cs := by
  intro fuel
  induction fuel with
  | zero => intro t cs x h; simp [DataW.trod] at h
  | succ n ih =>
    intro t cs x h
    unfold Fits
    split
    · rename_i ht
      obtain ⟨b, hb, _⟩ := DataW.trod_bool ht h
      exact ⟨b, hb⟩
    · rename_i k ht
      obtain ⟨m, hm, _, hw⟩ := DataW.trod_int ht h
      exact ⟨m, hm, hw⟩
    · rename_i ht
      obtain ⟨s, hs, _, hw⟩ := DataW.trod_string ht h
      exact ⟨s, hs, hw⟩
    · rename_i e ht
      rcases DataW.trod_slice ht h with ⟨rfl, _⟩ | ⟨a, len, cap, elems, rest, m, hm, rfl, _, _, hl, hc, hlen, hel, _, _⟩
      · exact ⟨none, 0, 0, rfl, Nat.le_refl _, by simp [maxLen], fun _ => rfl, fun _ i hi => absurd hi (Nat.not_lt_zero _)⟩
      · obtain rfl : n = m := by omega
        refine ⟨some a, len, cap, rfl, hl, hc, fun h => (by cases h), fun hp i hi => ?_⟩
        have hx := hel i hi
        rw [List.getElem?_eq_getElem (by omega)] at hx
        obtain ⟨xs, h1, h2⟩ := Option.bind_eq_some_iff.1 hx
        obtain ⟨_, h3, h4⟩ := World.cells?_some h1
        have hsp : a.spot = none := by
          have hy := hel 0 (by omega)
          rw [List.getElem?_eq_getElem (by omega)] at hy
          obtain ⟨ys, h5, _⟩ := Option.bind_eq_some_iff.1 hy
          obtain ⟨_, h6, h7⟩ := World.cells?_some h5
          have hys : 0 < ys.length := by omega
          have h8 : w.cell? ((a.add (0 * P.cellsOf e)).add 0) = some ys[0] := by rw [h7 0 (by omega), List.getElem?_eq_getElem hys]
          simpa [Addr.add] using World.cell?_spot h8
        obtain ⟨b, o, s⟩ := a
        simp only at hsp
        subst hsp
        refine ⟨b, o, xs, rfl, fun j u hj => ?_, ih _ _ _ h2⟩
        have hjl : j < xs.length := (List.getElem?_eq_some_iff.1 hj).1
        have h6 := h4 j (by omega)
        rw [hj] at h6
        rw [← h6]
        congr 1
        unfold Addr.add
        repeat' split
        all_goals simp_all
        all_goals omega
    · rename_i fs ht
      obtain ⟨xs, m, hm, _, hl, hlen, hf⟩ := DataW.trod_struct ht h
      obtain rfl : n = m := by omega
      refine ⟨hl, fun i f hi => ?_⟩
      have hx := hf i f hi
      have hlt : i < xs.length := by rw [hlen]; exact (Array.getElem?_eq_some_iff.1 hi).1
      rw [List.getElem?_eq_getElem hlt] at hx
      exact ih _ _ _ hx
    · rename_i m e ht
      obtain ⟨xs, k, hk, _, hl, hlen, hf⟩ := DataW.trod_array ht h
      obtain rfl : n = k := by omega
      refine ⟨hl, fun i hi => ?_⟩
      have hx := hf i hi
      rw [List.getElem?_eq_getElem (by omega)] at hx
      exact ih _ _ _ hx
    · trivial

end Go.Proofs.Ytbiplmlkgbicnaa
