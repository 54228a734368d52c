/- The walk of the law 'ClockBack'. -/
import Derived.Test.YtgidfnmblcjoiaaPlain
set_option linter.unusedVariables false
namespace Go.Proofs.Ytgidfnmblcjoiaa
open Go.RowKit

/-- A time that may be set, told by how many nanoseconds it is from the begin. -/
theorem time_may (s n : Int) (h0 : 0 ≤ s) (h1 : s < 281474976710656) (h2 : 0 ≤ n) (h3 : n < 1000000000) :
    ∃ t : Int, s = t / 1000000000 ∧ n = t % 1000000000 ∧ 0 ≤ t ∧ t < 281474976710656000000000 := ⟨s * 1000000000 + n, by omega, by omega, by omega, by omega⟩

set_option maxHeartbeats 1000000 in
theorem clockBack_walk (cs : Array Value) (x a : Int) (w : World) {n : Nat} (hf : Fits Try.prog w n 25 cs.toList) (wx : (Lit.int .i64 x).wf = true) (wa : (Lit.int .u64 a).wf = true) :
    Calls Try.prog 3 #[.agg cs, .int .i64 x, .int .u64 a] w fun e w' => e = .returned (.bool true) ∧ Below w.heap.size w w' := by
  obtain ⟨s, ns, u, hcs, s0, s1, n0, n1, u0, u1⟩ := open_time hf
  obtain rfl := arr_of hcs
  clear hf hcs
  have bx := bounds_i64 wx
  have ba := bounds_u64 wa
  by_cases ha : a < 4611686018427387904
  · by_cases hm : s < 281474976710656 ∧ ns < 1000000000
    · obtain ⟨t, rfl, rfl, t0, t1⟩ := time_may s ns s0 hm.1 n0 hm.2
      clear hm s0 s1 n0 n1
      by_cases hx : x < -4611686018427387904 ∨ 4611686018427387904 < x
      · go_enter Try.func3, Try.ntmps3
        go_wp2_with fail
        have B0 := Blk.new w #[.int .u64 (t / 1000000000), .int .u32 (t % 1000000000), .int .u32 u] 25
        have cB0 := B0.cell; have fB0 := B0.frozen
        have lt0 := B0.lt
        refine (shown_at _).mono ?_
        rintro e w1 ⟨rfl, k1⟩
        try clear cB0 fB0
        replace B0 := B0.turns k1 (by intro hh; first | exact False.elim hh | ((try simp only at hh); omega) | (simp at hh; omega))
        have cB0 := B0.cell; have fB0 := B0.frozen
        go_wp2_with fail
        refine (newT _ _ ha).mono ?_
        rintro e w2 ⟨rfl, T0, k2⟩
        try clear cB0 fB0
        replace B0 := B0.turns k2 (by intro hh; first | exact False.elim hh | ((try simp only at hh); omega) | (simp at hh; omega))
        have cB0 := B0.cell; have fB0 := B0.frozen
        have ne : w.heap.size < w1.heap.size := by have := k1.size; omega
        go_wp2_with fail
        refine (setT T0 _ _ t0 t1 u0 (by omega)).mono ?_
        rintro e w3 ⟨rfl, T1, k3⟩
        try clear cB0 fB0
        replace B0 := B0.turns k3 (by intro hh; first | exact False.elim hh | ((try simp only at hh); omega) | (simp at hh; omega))
        have cB0 := B0.cell; have fB0 := B0.frozen
        go_wp2_with fail
        refine (adjust_out _ _ _ hx).mono ?_
        rintro e w4 ⟨rfl, k4⟩
        try clear cB0 fB0
        replace B0 := B0.turns k4 (by intro hh; first | exact False.elim hh | ((try simp only at hh); omega) | (simp at hh; omega))
        have cB0 := B0.cell; have fB0 := B0.frozen
        replace T1 := T1.turns k4 (by intro hh; first | exact False.elim hh | ((try simp only at hh); omega) | (simp at hh; omega))
        go_wp2_with fail
        have qB0 := fun (p : Later w4) => (B0.turns p.h (by intro hh; first | exact False.elim hh | ((try simp only at hh); omega) | (simp at hh; omega))).cell
        have qT1 := fun (p : Later w4) => T1.turns p.h (by intro hh; first | exact False.elim hh | ((try simp only at hh); omega) | (simp at hh; omega))
        refine wp_region_later (by kernel_rfl) (by kernel_rfl) ?_
        repeat (go_big_quiet_step ((go_at_call 14; exact Later.calls (nowT (qT1 _)))))
        refine wpQuiet_nil ?_
        rintro _ ⟨⟨wq, kq⟩, rfl⟩
        clear qB0
        try clear cB0 fB0
        replace B0 := B0.turns kq (by intro hh; first | exact False.elim hh | ((try simp only at hh); omega) | (simp at hh; omega))
        have cB0 := B0.cell; have fB0 := B0.frozen
        clear qT1
        replace T1 := T1.turns kq (by intro hh; first | exact False.elim hh | ((try simp only at hh); omega) | (simp at hh; omega))
        go_wp2_with fail
        go_returns
        exact ⟨rfl, Turns.none_below (by repeat' (first | exact Turns.refl _ _ | assumption | exact Or.inl rfl | exact Or.inr (Nat.le_refl _) | apply Turns.alloc | apply Turns.drew | apply Turns.drewN | apply Turns.setCell | (apply Or.inr; simp; done) | (apply Or.inr; simp; omega) | exact fun _ hh => False.elim hh | exact fun _ hh => Or.inl hh | (intro i hi; right; (try simp only at hi); omega) | (intro i hi; right; simp at hi; omega) | refine Turns.step ?_ (by assumption) ?_))⟩
      · obtain ⟨t2, e2⟩ : ∃ t2, (t + x) % 281474976710656000000000 = t2 := ⟨_, rfl⟩
        have e3 : (t2 + -x) % 281474976710656000000000 = t := by omega
        by_cases hx0 : x = 0
        · subst hx0
          obtain rfl : t2 = t := by omega
          go_enter Try.func3, Try.ntmps3
          go_wp2_with fail
          have B0 := Blk.new w #[.int .u64 (t2 / 1000000000), .int .u32 (t2 % 1000000000), .int .u32 u] 25
          have cB0 := B0.cell; have fB0 := B0.frozen
          have lt0 := B0.lt
          refine (shown_at _).mono ?_
          rintro e w1 ⟨rfl, k1⟩
          try clear cB0 fB0
          replace B0 := B0.turns k1 (by intro hh; first | exact False.elim hh | ((try simp only at hh); omega) | (simp at hh; omega))
          have cB0 := B0.cell; have fB0 := B0.frozen
          go_wp2_with fail
          refine (newT _ _ ha).mono ?_
          rintro e w2 ⟨rfl, T0, k2⟩
          try clear cB0 fB0
          replace B0 := B0.turns k2 (by intro hh; first | exact False.elim hh | ((try simp only at hh); omega) | (simp at hh; omega))
          have cB0 := B0.cell; have fB0 := B0.frozen
          have ne : w.heap.size < w1.heap.size := by have := k1.size; omega
          go_wp2_with fail
          refine (setT T0 _ _ t0 t1 u0 (by omega)).mono ?_
          rintro e w3 ⟨rfl, T1, k3⟩
          try clear cB0 fB0
          replace B0 := B0.turns k3 (by intro hh; first | exact False.elim hh | ((try simp only at hh); omega) | (simp at hh; omega))
          have cB0 := B0.cell; have fB0 := B0.frozen
          go_wp2_with fail
          refine (adjustT T1 _ (by omega) (by omega)).mono ?_
          rintro e w4 ⟨rfl, T2, k4⟩
          try clear cB0 fB0
          replace B0 := B0.turns k4 (by intro hh; first | exact False.elim hh | ((try simp only at hh); omega) | (simp at hh; omega))
          have cB0 := B0.cell; have fB0 := B0.frozen
          have T2 : CT w4 w1.heap.size t2 u a := by rw [e2] at T2; exact T2
          go_wp2_with fail
          refine (nowT T2).mono ?_
          rintro e w5 ⟨rfl, k5⟩
          try clear cB0 fB0
          replace B0 := B0.turns k5 (by intro hh; first | exact False.elim hh | ((try simp only at hh); omega) | (simp at hh; omega))
          have cB0 := B0.cell; have fB0 := B0.frozen
          replace T2 := T2.turns k5 (by intro hh; first | exact False.elim hh | ((try simp only at hh); omega) | (simp at hh; omega))
          have B1 := Blk.new w5 #[.int .u64 (t2 / 1000000000), .int .u32 (t2 % 1000000000), .int .u32 u] 25
          have l0 := B0.lt
          replace B0 := B0.alloc (.cells #[.int .u64 (t2 / 1000000000), .int .u32 (t2 % 1000000000), .int .u32 u] 25)
          have l2 := T2.lt
          go_wp2_with fail
          refine (adjustT (T2.alloc _) _ (by omega) (by omega)).mono ?_
          rintro e w6 ⟨rfl, T3, k6⟩
          try clear cB0 fB0
          replace B0 := B0.turns k6 (by intro hh; first | exact False.elim hh | ((try simp only at hh); omega) | (simp at hh; omega))
          have cB0 := B0.cell; have fB0 := B0.frozen
          try clear cB1 fB1
          replace B1 := B1.turns k6 (by intro hh; first | exact False.elim hh | ((try simp only at hh); omega) | (simp at hh; omega))
          have cB1 := B1.cell; have fB1 := B1.frozen
          have T3 : CT w6 w1.heap.size t2 u a := by rw [show (t2 + 0) % 281474976710656000000000 = t2 from by omega] at T3; exact T3
          go_wp2_with fail
          have qB0 := fun (p : Later w6) => (B0.turns p.h (by intro hh; first | exact False.elim hh | ((try simp only at hh); omega) | (simp at hh; omega))).cell
          have qB1 := fun (p : Later w6) => (B1.turns p.h (by intro hh; first | exact False.elim hh | ((try simp only at hh); omega) | (simp at hh; omega))).cell
          have qT3 := fun (p : Later w6) => T3.turns p.h (by intro hh; first | exact False.elim hh | ((try simp only at hh); omega) | (simp at hh; omega))
          refine wp_region_later (by kernel_rfl) (by kernel_rfl) ?_
          repeat (go_big_quiet_step ((go_at_call 14; exact Later.calls (nowT (qT3 _)))))
          refine wpQuiet_nil ?_
          rintro _ ⟨⟨wq, kq⟩, rfl⟩
          clear qB0
          try clear cB0 fB0
          replace B0 := B0.turns kq (by intro hh; first | exact False.elim hh | ((try simp only at hh); omega) | (simp at hh; omega))
          have cB0 := B0.cell; have fB0 := B0.frozen
          clear qB1
          try clear cB1 fB1
          replace B1 := B1.turns kq (by intro hh; first | exact False.elim hh | ((try simp only at hh); omega) | (simp at hh; omega))
          have cB1 := B1.cell; have fB1 := B1.frozen
          clear qT3
          replace T3 := T3.turns kq (by intro hh; first | exact False.elim hh | ((try simp only at hh); omega) | (simp at hh; omega))
          go_wp2_with fail
          go_returns
          exact ⟨rfl, Turns.none_below (by repeat' (first | exact Turns.refl _ _ | assumption | exact Or.inl rfl | exact Or.inr (Nat.le_refl _) | apply Turns.alloc | apply Turns.drew | apply Turns.drewN | apply Turns.setCell | (apply Or.inr; simp; done) | (apply Or.inr; simp; omega) | exact fun _ hh => False.elim hh | exact fun _ hh => Or.inl hh | (intro i hi; right; (try simp only at hi); omega) | (intro i hi; right; simp at hi; omega) | refine Turns.step ?_ (by assumption) ?_))⟩
        · have hne : (t2 / 1000000000 == t / 1000000000) = false ∨ ((t2 / 1000000000 == t / 1000000000) = true ∧ (t2 % 1000000000 == t % 1000000000) = false) := by
            simp only [beq_eq_false_iff_ne, beq_iff_eq, ne_eq]
            omega
          have hx1 : (x == 0) = false := by simp [hx0]
          have hx2 : -4611686018427387904 ≤ x ∧ x ≤ 4611686018427387904 := by omega
          have H2 := hide e2
          have H3 := hide e3
          clear e2 e3 hx0 hx
          rcases hne with hne | ⟨hq, hne⟩
          all_goals
            go_enter Try.func3, Try.ntmps3
            go_wp2_with fail
            have B0 := Blk.new w #[.int .u64 (t / 1000000000), .int .u32 (t % 1000000000), .int .u32 u] 25
            have cB0 := B0.cell; have fB0 := B0.frozen
            have lt0 := B0.lt
            refine (shown_at _).mono ?_
            rintro e w1 ⟨rfl, k1⟩
            try clear cB0 fB0
            replace B0 := B0.turns k1 (by intro hh; first | exact False.elim hh | ((try simp only at hh); omega) | (simp at hh; omega))
            have cB0 := B0.cell; have fB0 := B0.frozen
            go_wp2_with fail
            refine (newT _ _ ha).mono ?_
            rintro e w2 ⟨rfl, T0, k2⟩
            try clear cB0 fB0
            replace B0 := B0.turns k2 (by intro hh; first | exact False.elim hh | ((try simp only at hh); omega) | (simp at hh; omega))
            have cB0 := B0.cell; have fB0 := B0.frozen
            have ne : w.heap.size < w1.heap.size := by have := k1.size; omega
            go_wp2_with fail
            refine (setT T0 _ _ t0 t1 u0 (by omega)).mono ?_
            rintro e w3 ⟨rfl, T1, k3⟩
            try clear cB0 fB0
            replace B0 := B0.turns k3 (by intro hh; first | exact False.elim hh | ((try simp only at hh); omega) | (simp at hh; omega))
            have cB0 := B0.cell; have fB0 := B0.frozen
            go_wp2_with fail
            refine (adjustT T1 _ hx2.1 hx2.2).mono ?_
            rintro e w4 ⟨rfl, T2, k4⟩
            try clear cB0 fB0
            replace B0 := B0.turns k4 (by intro hh; first | exact False.elim hh | ((try simp only at hh); omega) | (simp at hh; omega))
            have cB0 := B0.cell; have fB0 := B0.frozen
            have T2 : CT w4 w1.heap.size t2 u a := by rw [H2.out] at T2; exact T2
            go_wp2_with fail
            refine (nowT T2).mono ?_
            rintro e w5 ⟨rfl, k5⟩
            try clear cB0 fB0
            replace B0 := B0.turns k5 (by intro hh; first | exact False.elim hh | ((try simp only at hh); omega) | (simp at hh; omega))
            have cB0 := B0.cell; have fB0 := B0.frozen
            replace T2 := T2.turns k5 (by intro hh; first | exact False.elim hh | ((try simp only at hh); omega) | (simp at hh; omega))
            have B1 := Blk.new w5 #[.int .u64 (t2 / 1000000000), .int .u32 (t2 % 1000000000), .int .u32 u] 25
            have l0 := B0.lt
            replace B0 := B0.alloc (.cells #[.int .u64 (t2 / 1000000000), .int .u32 (t2 % 1000000000), .int .u32 u] 25)
            have l2 := T2.lt
            go_wp2_with fail
            refine (adjustT (T2.alloc _) _ (by omega) (by omega)).mono ?_
            rintro e w6 ⟨rfl, T3, k6⟩
            try clear cB0 fB0
            replace B0 := B0.turns k6 (by intro hh; first | exact False.elim hh | ((try simp only at hh); omega) | (simp at hh; omega))
            have cB0 := B0.cell; have fB0 := B0.frozen
            try clear cB1 fB1
            replace B1 := B1.turns k6 (by intro hh; first | exact False.elim hh | ((try simp only at hh); omega) | (simp at hh; omega))
            have cB1 := B1.cell; have fB1 := B1.frozen
            have T3 : CT w6 w1.heap.size t u a := by rw [H3.out] at T3; exact T3
            go_wp2_with fail
            have qB0 := fun (p : Later w6) => (B0.turns p.h (by intro hh; first | exact False.elim hh | ((try simp only at hh); omega) | (simp at hh; omega))).cell
            have qB1 := fun (p : Later w6) => (B1.turns p.h (by intro hh; first | exact False.elim hh | ((try simp only at hh); omega) | (simp at hh; omega))).cell
            have qT3 := fun (p : Later w6) => T3.turns p.h (by intro hh; first | exact False.elim hh | ((try simp only at hh); omega) | (simp at hh; omega))
            refine wp_region_later (by kernel_rfl) (by kernel_rfl) ?_
            repeat (go_big_quiet_step ((go_at_call 14; exact Later.calls (nowT (qT3 _)))))
            refine wpQuiet_nil ?_
            rintro _ ⟨⟨wq, kq⟩, rfl⟩
            clear qB0
            try clear cB0 fB0
            replace B0 := B0.turns kq (by intro hh; first | exact False.elim hh | ((try simp only at hh); omega) | (simp at hh; omega))
            have cB0 := B0.cell; have fB0 := B0.frozen
            clear qB1
            try clear cB1 fB1
            replace B1 := B1.turns kq (by intro hh; first | exact False.elim hh | ((try simp only at hh); omega) | (simp at hh; omega))
            have cB1 := B1.cell; have fB1 := B1.frozen
            clear qT3
            replace T3 := T3.turns kq (by intro hh; first | exact False.elim hh | ((try simp only at hh); omega) | (simp at hh; omega))
            go_wp2_with fail
            go_returns
            exact ⟨rfl, Turns.none_below (by repeat' (first | exact Turns.refl _ _ | assumption | exact Or.inl rfl | exact Or.inr (Nat.le_refl _) | apply Turns.alloc | apply Turns.drew | apply Turns.drewN | apply Turns.setCell | (apply Or.inr; simp; done) | (apply Or.inr; simp; omega) | exact fun _ hh => False.elim hh | exact fun _ hh => Or.inl hh | (intro i hi; right; (try simp only at hi); omega) | (intro i hi; right; simp at hi; omega) | refine Turns.step ?_ (by assumption) ?_))⟩
    · have hm' : 281474976710656 ≤ s ∨ 1000000000 ≤ ns := by omega
      clear hm
      go_enter Try.func3, Try.ntmps3
      go_wp2_with fail
      have B0 := Blk.new w #[.int .u64 s, .int .u32 ns, .int .u32 u] 25
      have cB0 := B0.cell; have fB0 := B0.frozen
      refine (shown_at _).mono ?_
      rintro e w1 ⟨rfl, k1⟩
      try clear cB0 fB0
      replace B0 := B0.turns k1 (by intro hh; first | exact False.elim hh | ((try simp only at hh); omega) | (simp at hh; omega))
      have cB0 := B0.cell; have fB0 := B0.frozen
      go_wp2_with fail
      refine (newT _ _ ha).mono ?_
      rintro e w2 ⟨rfl, T0, k2⟩
      try clear cB0 fB0
      replace B0 := B0.turns k2 (by intro hh; first | exact False.elim hh | ((try simp only at hh); omega) | (simp at hh; omega))
      have cB0 := B0.cell; have fB0 := B0.frozen
      go_wp2_with fail
      refine (set_bad _ _ _ _ _ hm').mono ?_
      rintro e w3 ⟨rfl, k3⟩
      go_wp2_with fail
      go_returns
      exact ⟨rfl, Turns.none_below (by repeat' (first | exact Turns.refl _ _ | assumption | exact Or.inl rfl | exact Or.inr (Nat.le_refl _) | apply Turns.alloc | apply Turns.drew | apply Turns.drewN | apply Turns.setCell | (apply Or.inr; simp; done) | (apply Or.inr; simp; omega) | exact fun _ hh => False.elim hh | exact fun _ hh => Or.inl hh | (intro i hi; right; (try simp only at hi); omega) | (intro i hi; right; simp at hi; omega) | refine Turns.step ?_ (by assumption) ?_))⟩
  · have ha' : 4611686018427387904 ≤ a := by omega
    clear ha
    go_enter Try.func3, Try.ntmps3
    go_wp2_with fail
    refine (shown_at _).mono ?_
    rintro e w1 ⟨rfl, k1⟩
    go_wp2_with fail
    refine (new_bad _ _ ha').mono ?_
    rintro e w2 ⟨rfl, rfl⟩
    go_wp2_with fail
    go_returns
    exact ⟨rfl, Turns.none_below (by repeat' (first | exact Turns.refl _ _ | assumption | exact Or.inl rfl | exact Or.inr (Nat.le_refl _) | apply Turns.alloc | apply Turns.drew | apply Turns.drewN | apply Turns.setCell | (apply Or.inr; simp; done) | (apply Or.inr; simp; omega) | exact fun _ hh => False.elim hh | exact fun _ hh => Or.inl hh | (intro i hi; right; (try simp only at hi); omega) | (intro i hi; right; simp at hi; omega) | refine Turns.step ?_ (by assumption) ?_))⟩

end Go.Proofs.Ytgidfnmblcjoiaa
