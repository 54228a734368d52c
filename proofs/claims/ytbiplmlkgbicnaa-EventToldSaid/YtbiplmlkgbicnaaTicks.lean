/- How long a pause is. -/
import Derived.Test.YtbiplmlkgbicnaaOpenF
set_option linter.unusedVariables false
namespace Go.Proofs.Ytbiplmlkgbicnaa
open Go.RowKit Go.Proofs.YtbiplmlkgbicnaaW.PrintWords

/-- The ticks of so many quanta. -/
def tk (q s : Int) : Int := (q * 512 + s - 1) / s
def Speed (s : Int) : Prop := s = 10 ∨ s = 100 ∨ s = 1000
theorem tk_bounds {q s : Int} (hs : Speed s) (h0 : 0 ≤ q) (h1 : q ≤ 65535) : 0 ≤ tk q s ∧ tk q s ≤ 3400000 := by
  unfold tk
  rcases hs with rfl | rfl | rfl <;> omega

set_option maxHeartbeats 400000 in
theorem ticks_ok (q s : Int) (w : World) (hs : Speed s) (h0 : 0 ≤ q) (h1 : q ≤ 65535) : Calls Try.prog 41 #[.int .i64 q, .int .i64 s] w fun e w' => e = .returned (.tuple #[.int .i64 (tk q s), .int .i64 0]) ∧ Turns nobody w w' := by
  rcases hs with rfl | rfl | rfl
  · go_enter Try.func41, Try.ntmps41
    go_wp2
    go_returns
    exact ⟨rfl, (by repeat' (first | exact Turns.refl _ _ | assumption | exact Or.inl rfl | exact Or.inr (Nat.le_refl _) | apply Turns.alloc | apply Turns.drew | apply Turns.drewN | apply Turns.setCell | (apply Or.inr; simp; done) | (apply Or.inr; simp; omega) | exact fun _ hh => False.elim hh | exact fun _ hh => Or.inl hh | (intro i hi; right; (try simp only at hi); omega) | (intro i hi; right; simp at hi; omega) | refine Turns.step ?_ (by assumption) ?_))⟩
  · go_enter Try.func41, Try.ntmps41
    go_wp2
    go_returns
    exact ⟨rfl, (by repeat' (first | exact Turns.refl _ _ | assumption | exact Or.inl rfl | exact Or.inr (Nat.le_refl _) | apply Turns.alloc | apply Turns.drew | apply Turns.drewN | apply Turns.setCell | (apply Or.inr; simp; done) | (apply Or.inr; simp; omega) | exact fun _ hh => False.elim hh | exact fun _ hh => Or.inl hh | (intro i hi; right; (try simp only at hi); omega) | (intro i hi; right; simp at hi; omega) | refine Turns.step ?_ (by assumption) ?_))⟩
  · go_enter Try.func41, Try.ntmps41
    go_wp2
    go_returns
    exact ⟨rfl, (by repeat' (first | exact Turns.refl _ _ | assumption | exact Or.inl rfl | exact Or.inr (Nat.le_refl _) | apply Turns.alloc | apply Turns.drew | apply Turns.drewN | apply Turns.setCell | (apply Or.inr; simp; done) | (apply Or.inr; simp; omega) | exact fun _ hh => False.elim hh | exact fun _ hh => Or.inl hh | (intro i hi; right; (try simp only at hi); omega) | (intro i hi; right; simp at hi; omega) | refine Turns.step ?_ (by assumption) ?_))⟩
set_option maxHeartbeats 400000 in
theorem ticks_bad (q s : Int) (w : World) (h : ¬ (Speed s ∧ 0 ≤ q ∧ q ≤ 65535)) : Calls Try.prog 41 #[.int .i64 q, .int .i64 s] w fun e w' => e = .returned (.tuple #[.int .i64 0, .int .i64 1]) ∧ Turns nobody w w' := by
  by_cases hs : Speed s
  · have hq : q < 0 ∨ 65535 < q := by
      by_cases h0 : q < 0
      · exact .inl h0
      · by_cases h1 : 65535 < q
        · exact .inr h1
        · exact absurd ⟨hs, by omega, by omega⟩ h
    clear h
    rcases hq with hq | hq
    all_goals
      rcases hs with rfl | rfl | rfl
      all_goals
        go_enter Try.func41, Try.ntmps41
        go_wp2
        go_returns
        exact ⟨rfl, (by repeat' (first | exact Turns.refl _ _ | assumption | exact Or.inl rfl | exact Or.inr (Nat.le_refl _) | apply Turns.alloc | apply Turns.drew | apply Turns.drewN | apply Turns.setCell | (apply Or.inr; simp; done) | (apply Or.inr; simp; omega) | exact fun _ hh => False.elim hh | exact fun _ hh => Or.inl hh | (intro i hi; right; (try simp only at hi); omega) | (intro i hi; right; simp at hi; omega) | refine Turns.step ?_ (by assumption) ?_))⟩
  · have e0 : (s == 10) = false := by simp; rintro rfl; exact hs (.inl rfl)
    have e1 : (s == 100) = false := by simp; rintro rfl; exact hs (.inr (.inl rfl))
    have e2 : (s == 1000) = false := by simp; rintro rfl; exact hs (.inr (.inr rfl))
    clear h hs
    go_enter Try.func41, Try.ntmps41
    go_wp2
    go_returns
    exact ⟨rfl, (by repeat' (first | exact Turns.refl _ _ | assumption | exact Or.inl rfl | exact Or.inr (Nat.le_refl _) | apply Turns.alloc | apply Turns.drew | apply Turns.drewN | apply Turns.setCell | (apply Or.inr; simp; done) | (apply Or.inr; simp; omega) | exact fun _ hh => False.elim hh | exact fun _ hh => Or.inl hh | (intro i hi; right; (try simp only at hi); omega) | (intro i hi; right; simp at hi; omega) | refine Turns.step ?_ (by assumption) ?_))⟩
set_option maxHeartbeats 400000 in
theorem start_ok (l q s : Int) (w : World) (hs : Speed s) (h0 : 0 ≤ q) (h1 : q ≤ 65535) : Calls Try.prog 43 #[.int .i64 l, .int .i64 q, .int .i64 s] w fun e w' => e = .returned (.int .i64 (tk q s)) ∧ Turns nobody w w' := by
  replace hs := hide hs
  go_enter Try.func43, Try.ntmps43
  go_wp2_with fail
  refine (ticks_ok q s _ hs.out h0 h1).mono ?_
  rintro e w1 ⟨rfl, k1⟩
  go_wp2_with fail
  go_returns
  exact ⟨rfl, (by repeat' (first | exact Turns.refl _ _ | assumption | exact Or.inl rfl | exact Or.inr (Nat.le_refl _) | apply Turns.alloc | apply Turns.drew | apply Turns.drewN | apply Turns.setCell | (apply Or.inr; simp; done) | (apply Or.inr; simp; omega) | exact fun _ hh => False.elim hh | exact fun _ hh => Or.inl hh | (intro i hi; right; (try simp only at hi); omega) | (intro i hi; right; simp at hi; omega) | refine Turns.step ?_ (by assumption) ?_))⟩
set_option maxHeartbeats 400000 in
theorem start_bad (l q s : Int) (w : World) (h : ¬ (Speed s ∧ 0 ≤ q ∧ q ≤ 65535)) : Calls Try.prog 43 #[.int .i64 l, .int .i64 q, .int .i64 s] w fun e w' => e = .returned (.int .i64 l) ∧ Turns nobody w w' := by
  replace h := hide h
  go_enter Try.func43, Try.ntmps43
  go_wp2_with fail
  refine (ticks_bad q s _ h.out).mono ?_
  rintro e w1 ⟨rfl, k1⟩
  go_wp2_with fail
  go_returns
  exact ⟨rfl, (by repeat' (first | exact Turns.refl _ _ | assumption | exact Or.inl rfl | exact Or.inr (Nat.le_refl _) | apply Turns.alloc | apply Turns.drew | apply Turns.drewN | apply Turns.setCell | (apply Or.inr; simp; done) | (apply Or.inr; simp; omega) | exact fun _ hh => False.elim hh | exact fun _ hh => Or.inl hh | (intro i hi; right; (try simp only at hi); omega) | (intro i hi; right; simp at hi; omega) | refine Turns.step ?_ (by assumption) ?_))⟩
def down (l : Int) : Int := if l ≤ 0 then 0 else l - 1
set_option maxHeartbeats 400000 in
theorem tick_law (l : Int) (w : World) (h0 : -9223372036854775808 ≤ l) (h1 : l ≤ 9223372036854775807) : Calls Try.prog 45 #[.int .i64 l] w fun e w' => e = .returned (.int .i64 (down l)) ∧ Turns nobody w w' := by
  unfold down
  by_cases h : l ≤ 0
  · rw [if_pos h]
    have hmx : max l 1 = 1 := by omega
    go_enter Try.func45, Try.ntmps45
    go_wp2
    go_returns
    exact ⟨rfl, (by repeat' (first | exact Turns.refl _ _ | assumption | exact Or.inl rfl | exact Or.inr (Nat.le_refl _) | apply Turns.alloc | apply Turns.drew | apply Turns.drewN | apply Turns.setCell | (apply Or.inr; simp; done) | (apply Or.inr; simp; omega) | exact fun _ hh => False.elim hh | exact fun _ hh => Or.inl hh | (intro i hi; right; (try simp only at hi); omega) | (intro i hi; right; simp at hi; omega) | refine Turns.step ?_ (by assumption) ?_))⟩
  · rw [if_neg h]
    have hmx : max l 1 = l := by omega
    go_enter Try.func45, Try.ntmps45
    go_wp2
    go_returns
    exact ⟨rfl, (by repeat' (first | exact Turns.refl _ _ | assumption | exact Or.inl rfl | exact Or.inr (Nat.le_refl _) | apply Turns.alloc | apply Turns.drew | apply Turns.drewN | apply Turns.setCell | (apply Or.inr; simp; done) | (apply Or.inr; simp; omega) | exact fun _ hh => False.elim hh | exact fun _ hh => Or.inl hh | (intro i hi; right; (try simp only at hi); omega) | (intro i hi; right; simp at hi; omega) | refine Turns.step ?_ (by assumption) ?_))⟩

end Go.Proofs.Ytbiplmlkgbicnaa
