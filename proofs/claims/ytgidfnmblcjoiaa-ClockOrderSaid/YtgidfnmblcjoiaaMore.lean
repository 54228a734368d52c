/- What Less, the reference's functions and the example do. -/
import Derived.Test.YtgidfnmblcjoiaaWalks
namespace Go.Proofs.Ytgidfnmblcjoiaa
open Go.RowKit

/-- Is the first time ahead of the second? -/
def lessB (s n u s' n' u' : Int) : Bool := decide (s < s' ∨ s = s' ∧ (n < n' ∨ n = n' ∧ u < u'))

theorem lessB_s {s n u s' n' u' : Int} (h : ¬ s = s') : lessB s n u s' n' u' = decide (s < s') := by unfold lessB; congr 1; simp [h]
theorem lessB_n {s n u n' u' : Int} (h : ¬ n = n') : lessB s n u s n' u' = decide (n < n') := by unfold lessB; congr 1; simp [h]
theorem lessB_u {s n u u' : Int} : lessB s n u s n u' = decide (u < u') := by unfold lessB; congr 1; simp

set_option maxHeartbeats 400000 in
theorem less_at (s n u s' n' u' : Int) (w : World) :
    Calls Try.prog 15 #[.agg #[.int .u64 s, .int .u32 n, .int .u32 u], .agg #[.int .u64 s', .int .u32 n', .int .u32 u']] w fun e w' => e = .returned (.bool (lessB s n u s' n' u')) ∧ Turns nobody w w' := by
  by_cases e1 : s = s'
  · subst e1
    by_cases e2 : n = n'
    · subst e2
      rw [lessB_u]
      go_enter Try.func15, Try.ntmps15
      go_wp2
      go_returns
      exact ⟨rfl, (by repeat' (first | exact Turns.refl _ _ | assumption | exact Or.inl rfl | exact Or.inr (Nat.le_refl _) | apply Turns.alloc | apply Turns.drew | apply Turns.drewN | apply Turns.setCell | (apply Or.inr; simp; done) | (apply Or.inr; simp; omega) | exact fun _ hh => False.elim hh | exact fun _ hh => Or.inl hh | (intro i hi; right; (try simp only at hi); omega) | (intro i hi; right; simp at hi; omega) | refine Turns.step ?_ (by assumption) ?_))⟩
    · rw [lessB_n e2]
      have b1 : (n == n') = false := by simp [e2]
      go_enter Try.func15, Try.ntmps15
      go_wp2
      go_returns
      exact ⟨rfl, (by repeat' (first | exact Turns.refl _ _ | assumption | exact Or.inl rfl | exact Or.inr (Nat.le_refl _) | apply Turns.alloc | apply Turns.drew | apply Turns.drewN | apply Turns.setCell | (apply Or.inr; simp; done) | (apply Or.inr; simp; omega) | exact fun _ hh => False.elim hh | exact fun _ hh => Or.inl hh | (intro i hi; right; (try simp only at hi); omega) | (intro i hi; right; simp at hi; omega) | refine Turns.step ?_ (by assumption) ?_))⟩
  · rw [lessB_s e1]
    have b1 : (s == s') = false := by simp [e1]
    go_enter Try.func15, Try.ntmps15
    go_wp2
    go_returns
    exact ⟨rfl, (by repeat' (first | exact Turns.refl _ _ | assumption | exact Or.inl rfl | exact Or.inr (Nat.le_refl _) | apply Turns.alloc | apply Turns.drew | apply Turns.drewN | apply Turns.setCell | (apply Or.inr; simp; done) | (apply Or.inr; simp; omega) | exact fun _ hh => False.elim hh | exact fun _ hh => Or.inl hh | (intro i hi; right; (try simp only at hi); omega) | (intro i hi; right; simp at hi; omega) | refine Turns.step ?_ (by assumption) ?_))⟩

set_option maxHeartbeats 400000 in
theorem rless_at (s n u s' n' u' : Int) (w : World) :
    Calls Try.prog 16 #[.agg #[.int .u64 s, .int .u32 n, .int .u32 u], .agg #[.int .u64 s', .int .u32 n', .int .u32 u']] w fun e w' => e = .returned (.bool (lessB s n u s' n' u')) ∧ Turns nobody w w' := by
  by_cases e1 : s = s'
  · subst e1
    by_cases e2 : n = n'
    · subst e2
      rw [lessB_u]
      go_enter Try.func16, Try.ntmps16
      go_wp2
      go_returns
      exact ⟨rfl, (by repeat' (first | exact Turns.refl _ _ | assumption | exact Or.inl rfl | exact Or.inr (Nat.le_refl _) | apply Turns.alloc | apply Turns.drew | apply Turns.drewN | apply Turns.setCell | (apply Or.inr; simp; done) | (apply Or.inr; simp; omega) | exact fun _ hh => False.elim hh | exact fun _ hh => Or.inl hh | (intro i hi; right; (try simp only at hi); omega) | (intro i hi; right; simp at hi; omega) | refine Turns.step ?_ (by assumption) ?_))⟩
    · rw [lessB_n e2]
      have b1 : (n == n') = false := by simp [e2]
      go_enter Try.func16, Try.ntmps16
      go_wp2
      go_returns
      exact ⟨rfl, (by repeat' (first | exact Turns.refl _ _ | assumption | exact Or.inl rfl | exact Or.inr (Nat.le_refl _) | apply Turns.alloc | apply Turns.drew | apply Turns.drewN | apply Turns.setCell | (apply Or.inr; simp; done) | (apply Or.inr; simp; omega) | exact fun _ hh => False.elim hh | exact fun _ hh => Or.inl hh | (intro i hi; right; (try simp only at hi); omega) | (intro i hi; right; simp at hi; omega) | refine Turns.step ?_ (by assumption) ?_))⟩
  · rw [lessB_s e1]
    have b1 : (s == s') = false := by simp [e1]
    go_enter Try.func16, Try.ntmps16
    go_wp2
    go_returns
    exact ⟨rfl, (by repeat' (first | exact Turns.refl _ _ | assumption | exact Or.inl rfl | exact Or.inr (Nat.le_refl _) | apply Turns.alloc | apply Turns.drew | apply Turns.drewN | apply Turns.setCell | (apply Or.inr; simp; done) | (apply Or.inr; simp; omega) | exact fun _ hh => False.elim hh | exact fun _ hh => Or.inl hh | (intro i hi; right; (try simp only at hi); omega) | (intro i hi; right; simp at hi; omega) | refine Turns.step ?_ (by assumption) ?_))⟩

end Go.Proofs.Ytgidfnmblcjoiaa
