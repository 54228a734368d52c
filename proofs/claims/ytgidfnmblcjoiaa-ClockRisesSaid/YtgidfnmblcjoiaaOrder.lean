/- The walk of the law 'ClockOrder'. -/
import Derived.Test.YtgidfnmblcjoiaaLaws
set_option linter.unusedVariables false
namespace Go.Proofs.Ytgidfnmblcjoiaa
open Go.RowKit

theorem lessB_self (s n u : Int) : lessB s n u s n u = false := by unfold lessB; simp
theorem lessB_asym {s n u s' n' u' : Int} (h : lessB s n u s' n' u' = true) : lessB s' n' u' s n u = false := by
  unfold lessB at *
  simp only [decide_eq_true_eq, decide_eq_false_iff_not] at *
  omega
theorem lessB_trans {s n u s' n' u' s2 n2 u2 : Int} (h : lessB s n u s' n' u' = true) (k : lessB s' n' u' s2 n2 u2 = true) : lessB s n u s2 n2 u2 = true := by
  unfold lessB at *
  simp only [decide_eq_true_eq] at *
  omega
theorem lessB_total {s n u s' n' u' : Int} (h : lessB s n u s' n' u' = false) (k : lessB s' n' u' s n u = false) : s = s' ∧ n = n' ∧ u = u' := by
  unfold lessB at *
  simp only [decide_eq_false_iff_not] at *
  omega
theorem lessB_ne {s n u s' n' u' : Int} (h : lessB s n u s' n' u' = true) : (s == s') = false ∨ (s = s' ∧ (n == n') = false) ∨ (s = s' ∧ n = n' ∧ (u == u') = false) := by
  unfold lessB at *
  simp only [decide_eq_true_eq] at h
  simp
  omega

set_option maxHeartbeats 2000000 in
theorem clockOrder_walk (cs cs' cs2 : Array Value) (w : World) {m m' m2 : Nat} (hf : Fits Try.prog w m 25 cs.toList) (hf' : Fits Try.prog w m' 25 cs'.toList) (hf2 : Fits Try.prog w m2 25 cs2.toList) :
    Calls Try.prog 4 #[.agg cs, .agg cs', .agg cs2] w fun e w' => e = .returned (.bool true) ∧ Below w.heap.size w w' := by
  obtain ⟨s, n, u, hcs, -⟩ := open_time hf
  obtain rfl := arr_of hcs
  obtain ⟨s', n', u', hcs', -⟩ := open_time hf'
  obtain rfl := arr_of hcs'
  obtain ⟨s2, n2, u2, hcs2, -⟩ := open_time hf2
  obtain rfl := arr_of hcs2
  clear hf hf' hf2 hcs hcs' hcs2
  cases hab : lessB s n u s' n' u' with
  | false =>
    cases hba : lessB s' n' u' s n u with
    | false =>
      obtain ⟨rfl, rfl, rfl⟩ := lessB_total hab hba
      go_enter Try.func4, Try.ntmps4
      go_wp2_with fail
      obtain ⟨B0, B1, B2⟩ := boxes3 w #[.int .u64 s, .int .u32 n, .int .u32 u] #[.int .u64 s, .int .u32 n, .int .u32 u] #[.int .u64 s2, .int .u32 n2, .int .u32 u2] 25 25 25
      refine (shown_at _).mono ?_
      rintro e w1 ⟨rfl, k1⟩
      try clear cB0 fB0
      replace B0 := B0.turns k1 (by intro hh; first | exact False.elim hh | ((try simp only at hh); omega) | (simp at hh; omega))
      have cB0 := B0.cell; have fB0 := B0.frozen
      try clear cB1 fB1
      replace B1 := B1.turns k1 (by intro hh; first | exact False.elim hh | ((try simp only at hh); omega) | (simp at hh; omega))
      have cB1 := B1.cell; have fB1 := B1.frozen
      try clear cB2 fB2
      replace B2 := B2.turns k1 (by intro hh; first | exact False.elim hh | ((try simp only at hh); omega) | (simp at hh; omega))
      have cB2 := B2.cell; have fB2 := B2.frozen
      go_wp2_with fail
      refine (less_at _ _ _ _ _ _ _).mono ?_
      rintro e w2 ⟨rfl, k2⟩
      try clear cB0 fB0
      replace B0 := B0.turns k2 (by intro hh; first | exact False.elim hh | ((try simp only at hh); omega) | (simp at hh; omega))
      have cB0 := B0.cell; have fB0 := B0.frozen
      try clear cB1 fB1
      replace B1 := B1.turns k2 (by intro hh; first | exact False.elim hh | ((try simp only at hh); omega) | (simp at hh; omega))
      have cB1 := B1.cell; have fB1 := B1.frozen
      try clear cB2 fB2
      replace B2 := B2.turns k2 (by intro hh; first | exact False.elim hh | ((try simp only at hh); omega) | (simp at hh; omega))
      have cB2 := B2.cell; have fB2 := B2.frozen
      go_wp2_with fail
      refine (less_at _ _ _ _ _ _ _).mono ?_
      rintro e w3 ⟨rfl, k3⟩
      try clear cB0 fB0
      replace B0 := B0.turns k3 (by intro hh; first | exact False.elim hh | ((try simp only at hh); omega) | (simp at hh; omega))
      have cB0 := B0.cell; have fB0 := B0.frozen
      try clear cB1 fB1
      replace B1 := B1.turns k3 (by intro hh; first | exact False.elim hh | ((try simp only at hh); omega) | (simp at hh; omega))
      have cB1 := B1.cell; have fB1 := B1.frozen
      try clear cB2 fB2
      replace B2 := B2.turns k3 (by intro hh; first | exact False.elim hh | ((try simp only at hh); omega) | (simp at hh; omega))
      have cB2 := B2.cell; have fB2 := B2.frozen
      go_wp2_with fail
      refine (rless_at _ _ _ _ _ _ _).mono ?_
      rintro e w4 ⟨rfl, k4⟩
      try clear cB0 fB0
      replace B0 := B0.turns k4 (by intro hh; first | exact False.elim hh | ((try simp only at hh); omega) | (simp at hh; omega))
      have cB0 := B0.cell; have fB0 := B0.frozen
      try clear cB1 fB1
      replace B1 := B1.turns k4 (by intro hh; first | exact False.elim hh | ((try simp only at hh); omega) | (simp at hh; omega))
      have cB1 := B1.cell; have fB1 := B1.frozen
      try clear cB2 fB2
      replace B2 := B2.turns k4 (by intro hh; first | exact False.elim hh | ((try simp only at hh); omega) | (simp at hh; omega))
      have cB2 := B2.cell; have fB2 := B2.frozen
      go_wp2_with fail
      go_returns
      exact ⟨rfl, Turns.none_below (by repeat' (first | exact Turns.refl _ _ | assumption | exact Or.inl rfl | exact Or.inr (Nat.le_refl _) | apply Turns.alloc | apply Turns.drew | apply Turns.drewN | apply Turns.setCell | (apply Or.inr; simp; done) | (apply Or.inr; simp; omega) | exact fun _ hh => False.elim hh | exact fun _ hh => Or.inl hh | (intro i hi; right; (try simp only at hi); omega) | (intro i hi; right; simp at hi; omega) | refine Turns.step ?_ (by assumption) ?_))⟩
    | true =>
      have hne := lessB_ne hba
      rcases hne with h1 | ⟨rfl, h1⟩ | ⟨rfl, rfl, h1⟩
      all_goals
        have h1' := h1
        rw [BEq.comm] at h1'
        go_enter Try.func4, Try.ntmps4
        go_wp2_with fail
        obtain ⟨B0, B1, B2⟩ := boxes3 w #[.int .u64 _, .int .u32 _, .int .u32 _] #[.int .u64 _, .int .u32 _, .int .u32 _] #[.int .u64 _, .int .u32 _, .int .u32 _] 25 25 25
        refine (shown_at _).mono ?_
        rintro e w1 ⟨rfl, k1⟩
        try clear cB0 fB0
        replace B0 := B0.turns k1 (by intro hh; first | exact False.elim hh | ((try simp only at hh); omega) | (simp at hh; omega))
        have cB0 := B0.cell; have fB0 := B0.frozen
        try clear cB1 fB1
        replace B1 := B1.turns k1 (by intro hh; first | exact False.elim hh | ((try simp only at hh); omega) | (simp at hh; omega))
        have cB1 := B1.cell; have fB1 := B1.frozen
        try clear cB2 fB2
        replace B2 := B2.turns k1 (by intro hh; first | exact False.elim hh | ((try simp only at hh); omega) | (simp at hh; omega))
        have cB2 := B2.cell; have fB2 := B2.frozen
        go_wp2_with fail
        refine (less_at _ _ _ _ _ _ _).mono ?_
        rintro e w2 ⟨rfl, k2⟩
        try clear cB0 fB0
        replace B0 := B0.turns k2 (by intro hh; first | exact False.elim hh | ((try simp only at hh); omega) | (simp at hh; omega))
        have cB0 := B0.cell; have fB0 := B0.frozen
        try clear cB1 fB1
        replace B1 := B1.turns k2 (by intro hh; first | exact False.elim hh | ((try simp only at hh); omega) | (simp at hh; omega))
        have cB1 := B1.cell; have fB1 := B1.frozen
        try clear cB2 fB2
        replace B2 := B2.turns k2 (by intro hh; first | exact False.elim hh | ((try simp only at hh); omega) | (simp at hh; omega))
        have cB2 := B2.cell; have fB2 := B2.frozen
        go_wp2_with fail
        refine (less_at _ _ _ _ _ _ _).mono ?_
        rintro e w3 ⟨rfl, k3⟩
        try clear cB0 fB0
        replace B0 := B0.turns k3 (by intro hh; first | exact False.elim hh | ((try simp only at hh); omega) | (simp at hh; omega))
        have cB0 := B0.cell; have fB0 := B0.frozen
        try clear cB1 fB1
        replace B1 := B1.turns k3 (by intro hh; first | exact False.elim hh | ((try simp only at hh); omega) | (simp at hh; omega))
        have cB1 := B1.cell; have fB1 := B1.frozen
        try clear cB2 fB2
        replace B2 := B2.turns k3 (by intro hh; first | exact False.elim hh | ((try simp only at hh); omega) | (simp at hh; omega))
        have cB2 := B2.cell; have fB2 := B2.frozen
        go_wp2_with fail
        refine (rless_at _ _ _ _ _ _ _).mono ?_
        rintro e w4 ⟨rfl, k4⟩
        try clear cB0 fB0
        replace B0 := B0.turns k4 (by intro hh; first | exact False.elim hh | ((try simp only at hh); omega) | (simp at hh; omega))
        have cB0 := B0.cell; have fB0 := B0.frozen
        try clear cB1 fB1
        replace B1 := B1.turns k4 (by intro hh; first | exact False.elim hh | ((try simp only at hh); omega) | (simp at hh; omega))
        have cB1 := B1.cell; have fB1 := B1.frozen
        try clear cB2 fB2
        replace B2 := B2.turns k4 (by intro hh; first | exact False.elim hh | ((try simp only at hh); omega) | (simp at hh; omega))
        have cB2 := B2.cell; have fB2 := B2.frozen
        go_wp2_with fail
        go_returns
        exact ⟨rfl, Turns.none_below (by repeat' (first | exact Turns.refl _ _ | assumption | exact Or.inl rfl | exact Or.inr (Nat.le_refl _) | apply Turns.alloc | apply Turns.drew | apply Turns.drewN | apply Turns.setCell | (apply Or.inr; simp; done) | (apply Or.inr; simp; omega) | exact fun _ hh => False.elim hh | exact fun _ hh => Or.inl hh | (intro i hi; right; (try simp only at hi); omega) | (intro i hi; right; simp at hi; omega) | refine Turns.step ?_ (by assumption) ?_))⟩
  | true =>
    have hba := lessB_asym hab
    have hne := lessB_ne hab
    cases hbc : lessB s' n' u' s2 n2 u2 with
    | false =>
      rcases hne with h1 | ⟨rfl, h1⟩ | ⟨rfl, rfl, h1⟩
      all_goals
        go_enter Try.func4, Try.ntmps4
        go_wp2_with fail
        obtain ⟨B0, B1, B2⟩ := boxes3 w #[.int .u64 _, .int .u32 _, .int .u32 _] #[.int .u64 _, .int .u32 _, .int .u32 _] #[.int .u64 _, .int .u32 _, .int .u32 _] 25 25 25
        refine (shown_at _).mono ?_
        rintro e w1 ⟨rfl, k1⟩
        try clear cB0 fB0
        replace B0 := B0.turns k1 (by intro hh; first | exact False.elim hh | ((try simp only at hh); omega) | (simp at hh; omega))
        have cB0 := B0.cell; have fB0 := B0.frozen
        try clear cB1 fB1
        replace B1 := B1.turns k1 (by intro hh; first | exact False.elim hh | ((try simp only at hh); omega) | (simp at hh; omega))
        have cB1 := B1.cell; have fB1 := B1.frozen
        try clear cB2 fB2
        replace B2 := B2.turns k1 (by intro hh; first | exact False.elim hh | ((try simp only at hh); omega) | (simp at hh; omega))
        have cB2 := B2.cell; have fB2 := B2.frozen
        go_wp2_with fail
        refine (less_at _ _ _ _ _ _ _).mono ?_
        rintro e w2 ⟨rfl, k2⟩
        try clear cB0 fB0
        replace B0 := B0.turns k2 (by intro hh; first | exact False.elim hh | ((try simp only at hh); omega) | (simp at hh; omega))
        have cB0 := B0.cell; have fB0 := B0.frozen
        try clear cB1 fB1
        replace B1 := B1.turns k2 (by intro hh; first | exact False.elim hh | ((try simp only at hh); omega) | (simp at hh; omega))
        have cB1 := B1.cell; have fB1 := B1.frozen
        try clear cB2 fB2
        replace B2 := B2.turns k2 (by intro hh; first | exact False.elim hh | ((try simp only at hh); omega) | (simp at hh; omega))
        have cB2 := B2.cell; have fB2 := B2.frozen
        go_wp2_with fail
        refine (less_at _ _ _ _ _ _ _).mono ?_
        rintro e w3 ⟨rfl, k3⟩
        try clear cB0 fB0
        replace B0 := B0.turns k3 (by intro hh; first | exact False.elim hh | ((try simp only at hh); omega) | (simp at hh; omega))
        have cB0 := B0.cell; have fB0 := B0.frozen
        try clear cB1 fB1
        replace B1 := B1.turns k3 (by intro hh; first | exact False.elim hh | ((try simp only at hh); omega) | (simp at hh; omega))
        have cB1 := B1.cell; have fB1 := B1.frozen
        try clear cB2 fB2
        replace B2 := B2.turns k3 (by intro hh; first | exact False.elim hh | ((try simp only at hh); omega) | (simp at hh; omega))
        have cB2 := B2.cell; have fB2 := B2.frozen
        go_wp2_with fail
        refine (rless_at _ _ _ _ _ _ _).mono ?_
        rintro e w4 ⟨rfl, k4⟩
        try clear cB0 fB0
        replace B0 := B0.turns k4 (by intro hh; first | exact False.elim hh | ((try simp only at hh); omega) | (simp at hh; omega))
        have cB0 := B0.cell; have fB0 := B0.frozen
        try clear cB1 fB1
        replace B1 := B1.turns k4 (by intro hh; first | exact False.elim hh | ((try simp only at hh); omega) | (simp at hh; omega))
        have cB1 := B1.cell; have fB1 := B1.frozen
        try clear cB2 fB2
        replace B2 := B2.turns k4 (by intro hh; first | exact False.elim hh | ((try simp only at hh); omega) | (simp at hh; omega))
        have cB2 := B2.cell; have fB2 := B2.frozen
        go_wp2_with fail
        refine (less_at _ _ _ _ _ _ _).mono ?_
        rintro e w5 ⟨rfl, k5⟩
        try clear cB0 fB0
        replace B0 := B0.turns k5 (by intro hh; first | exact False.elim hh | ((try simp only at hh); omega) | (simp at hh; omega))
        have cB0 := B0.cell; have fB0 := B0.frozen
        try clear cB1 fB1
        replace B1 := B1.turns k5 (by intro hh; first | exact False.elim hh | ((try simp only at hh); omega) | (simp at hh; omega))
        have cB1 := B1.cell; have fB1 := B1.frozen
        try clear cB2 fB2
        replace B2 := B2.turns k5 (by intro hh; first | exact False.elim hh | ((try simp only at hh); omega) | (simp at hh; omega))
        have cB2 := B2.cell; have fB2 := B2.frozen
        go_wp2_with fail
        go_returns
        exact ⟨rfl, Turns.none_below (by repeat' (first | exact Turns.refl _ _ | assumption | exact Or.inl rfl | exact Or.inr (Nat.le_refl _) | apply Turns.alloc | apply Turns.drew | apply Turns.drewN | apply Turns.setCell | (apply Or.inr; simp; done) | (apply Or.inr; simp; omega) | exact fun _ hh => False.elim hh | exact fun _ hh => Or.inl hh | (intro i hi; right; (try simp only at hi); omega) | (intro i hi; right; simp at hi; omega) | refine Turns.step ?_ (by assumption) ?_))⟩
    | true =>
      have hac := lessB_trans hab hbc
      rcases hne with h1 | ⟨rfl, h1⟩ | ⟨rfl, rfl, h1⟩
      all_goals
        go_enter Try.func4, Try.ntmps4
        go_wp2_with fail
        obtain ⟨B0, B1, B2⟩ := boxes3 w #[.int .u64 _, .int .u32 _, .int .u32 _] #[.int .u64 _, .int .u32 _, .int .u32 _] #[.int .u64 _, .int .u32 _, .int .u32 _] 25 25 25
        refine (shown_at _).mono ?_
        rintro e w1 ⟨rfl, k1⟩
        try clear cB0 fB0
        replace B0 := B0.turns k1 (by intro hh; first | exact False.elim hh | ((try simp only at hh); omega) | (simp at hh; omega))
        have cB0 := B0.cell; have fB0 := B0.frozen
        try clear cB1 fB1
        replace B1 := B1.turns k1 (by intro hh; first | exact False.elim hh | ((try simp only at hh); omega) | (simp at hh; omega))
        have cB1 := B1.cell; have fB1 := B1.frozen
        try clear cB2 fB2
        replace B2 := B2.turns k1 (by intro hh; first | exact False.elim hh | ((try simp only at hh); omega) | (simp at hh; omega))
        have cB2 := B2.cell; have fB2 := B2.frozen
        go_wp2_with fail
        refine (less_at _ _ _ _ _ _ _).mono ?_
        rintro e w2 ⟨rfl, k2⟩
        try clear cB0 fB0
        replace B0 := B0.turns k2 (by intro hh; first | exact False.elim hh | ((try simp only at hh); omega) | (simp at hh; omega))
        have cB0 := B0.cell; have fB0 := B0.frozen
        try clear cB1 fB1
        replace B1 := B1.turns k2 (by intro hh; first | exact False.elim hh | ((try simp only at hh); omega) | (simp at hh; omega))
        have cB1 := B1.cell; have fB1 := B1.frozen
        try clear cB2 fB2
        replace B2 := B2.turns k2 (by intro hh; first | exact False.elim hh | ((try simp only at hh); omega) | (simp at hh; omega))
        have cB2 := B2.cell; have fB2 := B2.frozen
        go_wp2_with fail
        refine (less_at _ _ _ _ _ _ _).mono ?_
        rintro e w3 ⟨rfl, k3⟩
        try clear cB0 fB0
        replace B0 := B0.turns k3 (by intro hh; first | exact False.elim hh | ((try simp only at hh); omega) | (simp at hh; omega))
        have cB0 := B0.cell; have fB0 := B0.frozen
        try clear cB1 fB1
        replace B1 := B1.turns k3 (by intro hh; first | exact False.elim hh | ((try simp only at hh); omega) | (simp at hh; omega))
        have cB1 := B1.cell; have fB1 := B1.frozen
        try clear cB2 fB2
        replace B2 := B2.turns k3 (by intro hh; first | exact False.elim hh | ((try simp only at hh); omega) | (simp at hh; omega))
        have cB2 := B2.cell; have fB2 := B2.frozen
        go_wp2_with fail
        refine (rless_at _ _ _ _ _ _ _).mono ?_
        rintro e w4 ⟨rfl, k4⟩
        try clear cB0 fB0
        replace B0 := B0.turns k4 (by intro hh; first | exact False.elim hh | ((try simp only at hh); omega) | (simp at hh; omega))
        have cB0 := B0.cell; have fB0 := B0.frozen
        try clear cB1 fB1
        replace B1 := B1.turns k4 (by intro hh; first | exact False.elim hh | ((try simp only at hh); omega) | (simp at hh; omega))
        have cB1 := B1.cell; have fB1 := B1.frozen
        try clear cB2 fB2
        replace B2 := B2.turns k4 (by intro hh; first | exact False.elim hh | ((try simp only at hh); omega) | (simp at hh; omega))
        have cB2 := B2.cell; have fB2 := B2.frozen
        go_wp2_with fail
        refine (less_at _ _ _ _ _ _ _).mono ?_
        rintro e w5 ⟨rfl, k5⟩
        try clear cB0 fB0
        replace B0 := B0.turns k5 (by intro hh; first | exact False.elim hh | ((try simp only at hh); omega) | (simp at hh; omega))
        have cB0 := B0.cell; have fB0 := B0.frozen
        try clear cB1 fB1
        replace B1 := B1.turns k5 (by intro hh; first | exact False.elim hh | ((try simp only at hh); omega) | (simp at hh; omega))
        have cB1 := B1.cell; have fB1 := B1.frozen
        try clear cB2 fB2
        replace B2 := B2.turns k5 (by intro hh; first | exact False.elim hh | ((try simp only at hh); omega) | (simp at hh; omega))
        have cB2 := B2.cell; have fB2 := B2.frozen
        go_wp2_with fail
        refine (less_at _ _ _ _ _ _ _).mono ?_
        rintro e w6 ⟨rfl, k6⟩
        try clear cB0 fB0
        replace B0 := B0.turns k6 (by intro hh; first | exact False.elim hh | ((try simp only at hh); omega) | (simp at hh; omega))
        have cB0 := B0.cell; have fB0 := B0.frozen
        try clear cB1 fB1
        replace B1 := B1.turns k6 (by intro hh; first | exact False.elim hh | ((try simp only at hh); omega) | (simp at hh; omega))
        have cB1 := B1.cell; have fB1 := B1.frozen
        try clear cB2 fB2
        replace B2 := B2.turns k6 (by intro hh; first | exact False.elim hh | ((try simp only at hh); omega) | (simp at hh; omega))
        have cB2 := B2.cell; have fB2 := B2.frozen
        go_wp2_with fail
        go_returns
        exact ⟨rfl, Turns.none_below (by repeat' (first | exact Turns.refl _ _ | assumption | exact Or.inl rfl | exact Or.inr (Nat.le_refl _) | apply Turns.alloc | apply Turns.drew | apply Turns.drewN | apply Turns.setCell | (apply Or.inr; simp; done) | (apply Or.inr; simp; omega) | exact fun _ hh => False.elim hh | exact fun _ hh => Or.inl hh | (intro i hi; right; (try simp only at hi); omega) | (intro i hi; right; simp at hi; omega) | refine Turns.step ?_ (by assumption) ?_))⟩

end Go.Proofs.Ytgidfnmblcjoiaa
