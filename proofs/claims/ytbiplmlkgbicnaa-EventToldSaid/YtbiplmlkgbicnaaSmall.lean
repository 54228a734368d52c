/- The small functions of a frame's layer: a type, a number's two bytes, whether a tag stands there. -/
import Derived.Test.YtbiplmlkgbicnaaApp
set_option linter.unusedVariables false
namespace Go.Proofs.Ytbiplmlkgbicnaa
open Go.RowKit Go.Proofs.YtbiplmlkgbicnaaW.PrintWords

set_option maxHeartbeats 400000 in
theorem typ_true (t n : Int) (w : World) (h : TypOk t n) : Calls Try.prog 60 #[.int .i64 t, .int .i64 n] w fun e w' => e = .returned (.bool true) ∧ Turns nobody w w' := by
  unfold TypOk at h
  by_cases h1 : t = n
  · subst h1
    clear h
    go_enter Try.func60, Try.ntmps60
    go_wp2
    go_returns
    exact ⟨rfl, (by repeat' (first | exact Turns.refl _ _ | assumption | exact Or.inl rfl | exact Or.inr (Nat.le_refl _) | apply Turns.alloc | apply Turns.drew | apply Turns.drewN | apply Turns.setCell | (apply Or.inr; simp; done) | (apply Or.inr; simp; omega) | exact fun _ hh => False.elim hh | exact fun _ hh => Or.inl hh | (intro i hi; right; (try simp only at hi); omega) | (intro i hi; right; simp at hi; omega) | refine Turns.step ?_ (by assumption) ?_))⟩
  · have h2 : 1536 ≤ t := by omega
    have h3 : t ≤ 65535 := by omega
    have h4 : (t != 33024) = true := by simp; omega
    have h5 : (t == n) = false := by simp; omega
    clear h h1
    go_enter Try.func60, Try.ntmps60
    go_wp2
    go_returns
    exact ⟨rfl, (by repeat' (first | exact Turns.refl _ _ | assumption | exact Or.inl rfl | exact Or.inr (Nat.le_refl _) | apply Turns.alloc | apply Turns.drew | apply Turns.drewN | apply Turns.setCell | (apply Or.inr; simp; done) | (apply Or.inr; simp; omega) | exact fun _ hh => False.elim hh | exact fun _ hh => Or.inl hh | (intro i hi; right; (try simp only at hi); omega) | (intro i hi; right; simp at hi; omega) | refine Turns.step ?_ (by assumption) ?_))⟩
set_option maxHeartbeats 400000 in
theorem typ_false (t n : Int) (w : World) (h : ¬ TypOk t n) : Calls Try.prog 60 #[.int .i64 t, .int .i64 n] w fun e w' => e = .returned (.bool false) ∧ Turns nobody w w' := by
  unfold TypOk at h
  have h5 : (t == n) = false := by simp; omega
  by_cases h1 : t < 1536
  · clear h
    go_enter Try.func60, Try.ntmps60
    go_wp2
    go_returns
    exact ⟨rfl, (by repeat' (first | exact Turns.refl _ _ | assumption | exact Or.inl rfl | exact Or.inr (Nat.le_refl _) | apply Turns.alloc | apply Turns.drew | apply Turns.drewN | apply Turns.setCell | (apply Or.inr; simp; done) | (apply Or.inr; simp; omega) | exact fun _ hh => False.elim hh | exact fun _ hh => Or.inl hh | (intro i hi; right; (try simp only at hi); omega) | (intro i hi; right; simp at hi; omega) | refine Turns.step ?_ (by assumption) ?_))⟩
  · by_cases h2 : 65535 < t
    · clear h
      go_enter Try.func60, Try.ntmps60
      go_wp2
      go_returns
      exact ⟨rfl, (by repeat' (first | exact Turns.refl _ _ | assumption | exact Or.inl rfl | exact Or.inr (Nat.le_refl _) | apply Turns.alloc | apply Turns.drew | apply Turns.drewN | apply Turns.setCell | (apply Or.inr; simp; done) | (apply Or.inr; simp; omega) | exact fun _ hh => False.elim hh | exact fun _ hh => Or.inl hh | (intro i hi; right; (try simp only at hi); omega) | (intro i hi; right; simp at hi; omega) | refine Turns.step ?_ (by assumption) ?_))⟩
    · obtain rfl : t = 33024 := by omega
      clear h
      go_enter Try.func60, Try.ntmps60
      go_wp2
      go_returns
      exact ⟨rfl, (by repeat' (first | exact Turns.refl _ _ | assumption | exact Or.inl rfl | exact Or.inr (Nat.le_refl _) | apply Turns.alloc | apply Turns.drew | apply Turns.drewN | apply Turns.setCell | (apply Or.inr; simp; done) | (apply Or.inr; simp; omega) | exact fun _ hh => False.elim hh | exact fun _ hh => Or.inl hh | (intro i hi; right; (try simp only at hi); omega) | (intro i hi; right; simp at hi; omega) | refine Turns.step ?_ (by assumption) ?_))⟩

set_option maxHeartbeats 400000 in
theorem two_law (n : Int) (w : World) (h0 : 0 ≤ n) (h1 : n ≤ 65535) : Calls Try.prog 61 #[.int .i64 n] w fun e w' => ∃ g, e = .returned (.slice (some ⟨g, 0, none⟩) 2 2) ∧ ReadsB w' (some ⟨g, 0, none⟩) (two n) ∧ w.heap.size ≤ g ∧ Turns nobody w w' := by
  go_enter Try.func61, Try.ntmps61
  go_wp2
  go_returns
  refine ⟨_, rfl, .inr ⟨_, _, rfl, ?_⟩, Nat.le_refl _, (by repeat' (first | exact Turns.refl _ _ | assumption | exact Or.inl rfl | exact Or.inr (Nat.le_refl _) | apply Turns.alloc | apply Turns.drew | apply Turns.drewN | apply Turns.setCell | (apply Or.inr; simp; done) | (apply Or.inr; simp; omega) | exact fun _ hh => False.elim hh | exact fun _ hh => Or.inl hh | (intro i hi; right; (try simp only at hi); omega) | (intro i hi; right; simp at hi; omega) | refine Turns.step ?_ (by assumption) ?_))⟩
  intro j u hj
  rw [Nat.zero_add, (Blk.new w _ 5).cell j]
  simpa [byteCells, two] using hj

set_option maxHeartbeats 400000 in
theorem tagged_law (A : Option Addr) (c : Nat) (bs : List Int) (w : World) (h : ReadsB w A bs) (hm : bs.length ≤ maxLen) : Calls Try.prog 62 #[.slice A bs.length c] w fun e w' => e = .returned (.bool (tagged bs)) ∧ Turns nobody w w' := by
  unfold maxLen at hm
  by_cases h1 : 14 ≤ bs.length
  · obtain ⟨b, o, rfl, hb, hc⟩ := h.nth (by omega)
    have c12 := hc 12 (by omega)
    have c13 := hc 13 (by omega)
    have i1 : (12 : Int) < (bs.length : Int) := by omega
    have i2 : (13 : Int) < (bs.length : Int) := by omega
    clear hc h
    by_cases h2 : nth bs 12 = 129
    · by_cases h3 : nth bs 13 = 0
      · have ht : tagged bs = true := by simp [tagged, h1, h2, h3]
        rw [h2] at c12
        rw [h3] at c13
        rw [ht]
        clear ht h2 h3
        go_enter Try.func62, Try.ntmps62
        go_wp2
        go_returns
        exact ⟨rfl, (by repeat' (first | exact Turns.refl _ _ | assumption | exact Or.inl rfl | exact Or.inr (Nat.le_refl _) | apply Turns.alloc | apply Turns.drew | apply Turns.drewN | apply Turns.setCell | (apply Or.inr; simp; done) | (apply Or.inr; simp; omega) | exact fun _ hh => False.elim hh | exact fun _ hh => Or.inl hh | (intro i hi; right; (try simp only at hi); omega) | (intro i hi; right; simp at hi; omega) | refine Turns.step ?_ (by assumption) ?_))⟩
      · have ht : tagged bs = false := by simp [tagged, h3]
        have e3 : (nth bs 13 == 0) = false := by simpa using h3
        rw [h2] at c12
        rw [ht]
        clear ht h2 h3
        go_enter Try.func62, Try.ntmps62
        go_wp2
        go_returns
        exact ⟨rfl, (by repeat' (first | exact Turns.refl _ _ | assumption | exact Or.inl rfl | exact Or.inr (Nat.le_refl _) | apply Turns.alloc | apply Turns.drew | apply Turns.drewN | apply Turns.setCell | (apply Or.inr; simp; done) | (apply Or.inr; simp; omega) | exact fun _ hh => False.elim hh | exact fun _ hh => Or.inl hh | (intro i hi; right; (try simp only at hi); omega) | (intro i hi; right; simp at hi; omega) | refine Turns.step ?_ (by assumption) ?_))⟩
    · have ht : tagged bs = false := by simp [tagged, h2]
      have e3 : (nth bs 12 == 129) = false := by simpa using h2
      rw [ht]
      clear ht h2
      go_enter Try.func62, Try.ntmps62
      go_wp2
      go_returns
      exact ⟨rfl, (by repeat' (first | exact Turns.refl _ _ | assumption | exact Or.inl rfl | exact Or.inr (Nat.le_refl _) | apply Turns.alloc | apply Turns.drew | apply Turns.drewN | apply Turns.setCell | (apply Or.inr; simp; done) | (apply Or.inr; simp; omega) | exact fun _ hh => False.elim hh | exact fun _ hh => Or.inl hh | (intro i hi; right; (try simp only at hi); omega) | (intro i hi; right; simp at hi; omega) | refine Turns.step ?_ (by assumption) ?_))⟩
  · have ht : tagged bs = false := by simp [tagged, h1]
    rw [ht]
    clear ht h
    go_enter Try.func62, Try.ntmps62
    go_wp2
    go_returns
    exact ⟨rfl, (by repeat' (first | exact Turns.refl _ _ | assumption | exact Or.inl rfl | exact Or.inr (Nat.le_refl _) | apply Turns.alloc | apply Turns.drew | apply Turns.drewN | apply Turns.setCell | (apply Or.inr; simp; done) | (apply Or.inr; simp; omega) | exact fun _ hh => False.elim hh | exact fun _ hh => Or.inl hh | (intro i hi; right; (try simp only at hi); omega) | (intro i hi; right; simp at hi; omega) | refine Turns.step ?_ (by assumption) ?_))⟩

end Go.Proofs.Ytbiplmlkgbicnaa
