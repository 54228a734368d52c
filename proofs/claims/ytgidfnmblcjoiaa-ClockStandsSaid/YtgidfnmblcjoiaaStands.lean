/- The walk of the law 'ClockStands'. -/
import Derived.Test.YtgidfnmblcjoiaaBack
set_option linter.unusedVariables false
namespace Go.Proofs.Ytgidfnmblcjoiaa
open Go.RowKit

theorem tick0 {b : Nat} {t u : Int} {w : World} (h : CT w b t u 0) :
    Calls Try.prog 18 #[.pointer (some ⟨b, 0, none⟩)] w fun e w' => e = .returned (.tuple #[]) ∧ CT w' b t u 0 ∧ Turns (· = b) w w' := by
  have t0 := h.t0
  have t1 := h.t1
  have u0 := h.u0
  have u1 := h.u1
  refine (tickT h (by omega) (by omega)).mono ?_
  rintro e w' ⟨h1, h2, h3⟩
  rw [show (t + (u + 0) / 4294967296) % 281474976710656000000000 = t from by omega, show (u + 0) % 4294967296 = u from by omega] at h2
  exact ⟨h1, h2, h3⟩

set_option maxHeartbeats 1000000 in
theorem clockStands_walk (cs : Array Value) (m a : Int) (w : World) {n : Nat} (hf : Fits Try.prog w n 25 cs.toList) (wm : (Lit.int .u8 m).wf = true) (wa : (Lit.int .u64 a).wf = true) :
    Calls Try.prog 8 #[.agg cs, .int .u8 m, .int .u64 a] w fun e w' => e = .returned (.bool true) ∧ Below w.heap.size w w' := by
  obtain ⟨s, ns, u, hcs, s0, s1, n0, n1, u0, u1⟩ := open_time hf
  obtain rfl := arr_of hcs
  clear hf hcs
  have bm := bounds_u8 wm
  have ba := bounds_u64 wa
  clear wm wa
  obtain ⟨m, rfl⟩ := Int.eq_ofNat_of_zero_le bm.1
  by_cases ha : a < 4611686018427387904
  · by_cases hm : s < 281474976710656 ∧ ns < 1000000000
    · obtain ⟨t, rfl, rfl, t0, t1⟩ := time_may s ns s0 hm.1 n0 hm.2
      clear hm s0 s1 n0 n1
      go_enter Try.func8, Try.ntmps8
      go_wp2_with fail
      have B0 := Blk.new w #[.int .u64 (t / 1000000000), .int .u32 (t % 1000000000), .int .u32 u] 25
      have cB0 := B0.cell; have fB0 := B0.frozen
      refine (shown_at _).mono ?_
      rintro e w1 ⟨rfl, k1⟩
      try clear cB0 fB0
      replace B0 := B0.turns k1 (by intro hh; first | exact False.elim hh | ((try simp only at hh); omega) | (simp at hh; omega))
      have cB0 := B0.cell; have fB0 := B0.frozen
      have l1 := B0.lt
      go_wp2_with fail
      refine (newT _ _ ha).mono ?_
      rintro e w2 ⟨rfl, T0, k2⟩
      try clear cB0 fB0
      replace B0 := B0.turns k2 (by intro hh; first | exact False.elim hh | ((try simp only at hh); omega) | (simp at hh; omega))
      have cB0 := B0.cell; have fB0 := B0.frozen
      go_wp2_with fail
      refine (setT T0 _ _ t0 t1 u0 (by omega)).mono ?_
      rintro e w3 ⟨rfl, T1, k3⟩
      try clear cB0 fB0
      replace B0 := B0.turns k3 (by intro hh; first | exact False.elim hh | ((try simp only at hh); omega) | (simp at hh; omega))
      have cB0 := B0.cell; have fB0 := B0.frozen
      go_wp2_with fail
      refine (fineT T1 0 (by omega)).mono ?_
      rintro e w4 ⟨rfl, T2, k4⟩
      try clear cB0 fB0
      replace B0 := B0.turns k4 (by intro hh; first | exact False.elim hh | ((try simp only at hh); omega) | (simp at hh; omega))
      have cB0 := B0.cell; have fB0 := B0.frozen
      go_wp2_with fail
      refine (nowT T2).mono ?_
      rintro e w5 ⟨rfl, k5⟩
      try clear cB0 fB0
      replace B0 := B0.turns k5 (by intro hh; first | exact False.elim hh | ((try simp only at hh); omega) | (simp at hh; omega))
      have cB0 := B0.cell; have fB0 := B0.frozen
      replace T2 := T2.turns k5 (by intro hh; first | exact False.elim hh | ((try simp only at hh); omega) | (simp at hh; omega))
      have B1 := Blk.new w5 #[.int .u64 (t / 1000000000), .int .u32 (t % 1000000000), .int .u32 u] 25
      have l5 := B0.lt
      have l6 := T2.lt
      replace B0 := B0.alloc (.cells #[.int .u64 (t / 1000000000), .int .u32 (t % 1000000000), .int .u32 u] 25)
      replace T2 := T2.alloc (.cells #[.int .u64 (t / 1000000000), .int .u32 (t % 1000000000), .int .u32 u] 25)
      have K : Turns nobody w (w5.alloc (.cells #[.int .u64 (t / 1000000000), .int .u32 (t % 1000000000), .int .u32 u] 25)) := (by repeat' (first | exact Turns.refl _ _ | assumption | exact Or.inl rfl | exact Or.inr (Nat.le_refl _) | apply Turns.alloc | apply Turns.drew | apply Turns.drewN | apply Turns.setCell | (apply Or.inr; simp; done) | (apply Or.inr; simp; omega) | exact fun _ hh => False.elim hh | exact fun _ hh => Or.inl hh | (intro i hi; right; (try simp only at hi); omega) | (intro i hi; right; simp at hi; omega) | refine Turns.step ?_ (by assumption) ?_))
      go_wp2_with fail
      go_loopw [13] (fun i wr => ∃ k : Nat, k ≤ m ∧ i = .int .i64 k ∧ CT wr w1.heap.size t u 0 ∧ Blk wr w.heap.size #[.int .u64 (t / 1000000000), .int .u32 (t % 1000000000), .int .u32 u] 25 ∧
          Blk wr w5.heap.size #[.int .u64 (t / 1000000000), .int .u32 (t % 1000000000), .int .u32 u] 25 ∧ Turns nobody w wr) (fun i _ => m - (intOf i).toNat)
      case atStart => exact ⟨0, Nat.zero_le _, rfl, T2, B0, B1, K⟩
      case round =>
        obtain ⟨k, hk, rfl, T3, B2, B3, K2⟩ := hrel
        by_cases hlt : k < m
        · skip
          go_wp2_with fail
          refine (tick0 T3).mono ?_
          rintro e w6 ⟨rfl, T4, k6⟩
          try clear cB2 fB2
          replace B2 := B2.turns k6 (by intro hh; first | exact False.elim hh | ((try simp only at hh); omega) | (simp at hh; omega))
          have cB2 := B2.cell; have fB2 := B2.frozen
          try clear cB3 fB3
          replace B3 := B3.turns k6 (by intro hh; first | exact False.elim hh | ((try simp only at hh); omega) | (simp at hh; omega))
          have cB3 := B3.cell; have fB3 := B3.frozen
          have K3 : Turns nobody w w6 := (by repeat' (first | exact Turns.refl _ _ | assumption | exact Or.inl rfl | exact Or.inr (Nat.le_refl _) | apply Turns.alloc | apply Turns.drew | apply Turns.drewN | apply Turns.setCell | (apply Or.inr; simp; done) | (apply Or.inr; simp; omega) | exact fun _ hh => False.elim hh | exact fun _ hh => Or.inl hh | (intro i hi; right; (try simp only at hi); omega) | (intro i hi; right; simp at hi; omega) | refine Turns.step ?_ (by assumption) ?_))
          go_wp2_with fail
          go_roundw
          case rel => exact ⟨k + 1, by omega, by go_num, T4, B2, B3, K3⟩
          case measure => simp [intOf]; omega
        · have cB2 := B2.cell; have fB2 := B2.frozen
          have cB3 := B3.cell; have fB3 := B3.frozen
          go_wp2_with fail
          have qB2 := fun (p : Later wr) => (B2.turns p.h (by intro hh; first | exact False.elim hh | ((try simp only at hh); omega) | (simp at hh; omega))).cell
          have qB3 := fun (p : Later wr) => (B3.turns p.h (by intro hh; first | exact False.elim hh | ((try simp only at hh); omega) | (simp at hh; omega))).cell
          have qT3 := fun (p : Later wr) => T3.turns p.h (by intro hh; first | exact False.elim hh | ((try simp only at hh); omega) | (simp at hh; omega))
          refine wp_region_later (by kernel_rfl) (by kernel_rfl) ?_
          repeat (go_big_quiet_step ((go_at_call 14; exact Later.calls (nowT (qT3 _)))))
          refine wpQuiet_nil ?_
          rintro _ ⟨⟨wq, kq⟩, rfl⟩
          clear qB2
          try clear cB2 fB2
          replace B2 := B2.turns kq (by intro hh; first | exact False.elim hh | ((try simp only at hh); omega) | (simp at hh; omega))
          have cB2 := B2.cell; have fB2 := B2.frozen
          clear qB3
          try clear cB3 fB3
          replace B3 := B3.turns kq (by intro hh; first | exact False.elim hh | ((try simp only at hh); omega) | (simp at hh; omega))
          have cB3 := B3.cell; have fB3 := B3.frozen
          clear qT3
          replace T3 := T3.turns kq (by intro hh; first | exact False.elim hh | ((try simp only at hh); omega) | (simp at hh; omega))
          go_wp2_with fail
          go_returns
          exact ⟨rfl, Turns.none_below (by repeat' (first | exact Turns.refl _ _ | assumption | exact Or.inl rfl | exact Or.inr (Nat.le_refl _) | apply Turns.alloc | apply Turns.drew | apply Turns.drewN | apply Turns.setCell | (apply Or.inr; simp; done) | (apply Or.inr; simp; omega) | exact fun _ hh => False.elim hh | exact fun _ hh => Or.inl hh | (intro i hi; right; (try simp only at hi); omega) | (intro i hi; right; simp at hi; omega) | refine Turns.step ?_ (by assumption) ?_))⟩
    · have hd : (decide (s < 281474976710656) = false ∧ 281474976710656 ≤ s) ∨ ((decide (s < 281474976710656) = true ∧ s < 281474976710656) ∧ decide (ns < 1000000000) = false ∧ 1000000000 ≤ ns) := by
        simp only [decide_eq_true_eq, decide_eq_false_iff_not]
        omega
      clear hm
      rcases hd with ⟨hd1, hs⟩ | ⟨⟨hd1, hs⟩, hd2, hs'⟩
      all_goals
        have hm : 281474976710656 ≤ s ∨ 1000000000 ≤ ns := by omega
        have Hm := hide hm
        clear hm
        go_enter Try.func8, Try.ntmps8
        go_wp2_with fail
        have B0 := Blk.new w #[.int .u64 s, .int .u32 ns, .int .u32 u] 25
        have cB0 := B0.cell; have fB0 := B0.frozen
        refine (shown_at _).mono ?_
        rintro e w1 ⟨rfl, k1⟩
        try clear cB0 fB0
        replace B0 := B0.turns k1 (by intro hh; first | exact False.elim hh | ((try simp only at hh); omega) | (simp at hh; omega))
        have cB0 := B0.cell; have fB0 := B0.frozen
        have l1 := B0.lt
        go_wp2_with fail
        refine (newT _ _ ha).mono ?_
        rintro e w2 ⟨rfl, T0, k2⟩
        try clear cB0 fB0
        replace B0 := B0.turns k2 (by intro hh; first | exact False.elim hh | ((try simp only at hh); omega) | (simp at hh; omega))
        have cB0 := B0.cell; have fB0 := B0.frozen
        go_wp2_with fail
        refine (set_bad _ _ _ _ _ Hm.out).mono ?_
        rintro e w3 ⟨rfl, k3⟩
        try clear cB0 fB0
        replace B0 := B0.turns k3 (by intro hh; first | exact False.elim hh | ((try simp only at hh); omega) | (simp at hh; omega))
        have cB0 := B0.cell; have fB0 := B0.frozen
        replace T0 := T0.turns k3 (by intro hh; first | exact False.elim hh | ((try simp only at hh); omega) | (simp at hh; omega))
        go_wp2_with fail
        refine (fineT T0 0 (by omega)).mono ?_
        rintro e w4 ⟨rfl, T2, k4⟩
        try clear cB0 fB0
        replace B0 := B0.turns k4 (by intro hh; first | exact False.elim hh | ((try simp only at hh); omega) | (simp at hh; omega))
        have cB0 := B0.cell; have fB0 := B0.frozen
        go_wp2_with fail
        refine (nowT T2).mono ?_
        rintro e w5 ⟨rfl, k5⟩
        try clear cB0 fB0
        replace B0 := B0.turns k5 (by intro hh; first | exact False.elim hh | ((try simp only at hh); omega) | (simp at hh; omega))
        have cB0 := B0.cell; have fB0 := B0.frozen
        replace T2 := T2.turns k5 (by intro hh; first | exact False.elim hh | ((try simp only at hh); omega) | (simp at hh; omega))
        have B1 := Blk.new w5 #[.int .u64 0, .int .u32 0, .int .u32 0] 25
        have l5 := B0.lt
        have l6 := T2.lt
        replace B0 := B0.alloc (.cells #[.int .u64 0, .int .u32 0, .int .u32 0] 25)
        replace T2 := T2.alloc (.cells #[.int .u64 0, .int .u32 0, .int .u32 0] 25)
        have K : Turns nobody w (w5.alloc (.cells #[.int .u64 0, .int .u32 0, .int .u32 0] 25)) := (by repeat' (first | exact Turns.refl _ _ | assumption | exact Or.inl rfl | exact Or.inr (Nat.le_refl _) | apply Turns.alloc | apply Turns.drew | apply Turns.drewN | apply Turns.setCell | (apply Or.inr; simp; done) | (apply Or.inr; simp; omega) | exact fun _ hh => False.elim hh | exact fun _ hh => Or.inl hh | (intro i hi; right; (try simp only at hi); omega) | (intro i hi; right; simp at hi; omega) | refine Turns.step ?_ (by assumption) ?_))
        go_wp2_with fail
        go_loopw [13] (fun i wr => ∃ k : Nat, k ≤ m ∧ i = .int .i64 k ∧ CT wr w1.heap.size 0 0 0 ∧ Blk wr w.heap.size #[.int .u64 s, .int .u32 ns, .int .u32 u] 25 ∧
            Blk wr w5.heap.size #[.int .u64 0, .int .u32 0, .int .u32 0] 25 ∧ Turns nobody w wr) (fun i _ => m - (intOf i).toNat)
        case atStart => exact ⟨0, Nat.zero_le _, rfl, T2, B0, B1, K⟩
        case round =>
          obtain ⟨k, hk, rfl, T3, B2, B3, K2⟩ := hrel
          by_cases hlt : k < m
          · skip
            go_wp2_with fail
            refine (tick0 T3).mono ?_
            rintro e w6 ⟨rfl, T4, k6⟩
            try clear cB2 fB2
            replace B2 := B2.turns k6 (by intro hh; first | exact False.elim hh | ((try simp only at hh); omega) | (simp at hh; omega))
            have cB2 := B2.cell; have fB2 := B2.frozen
            try clear cB3 fB3
            replace B3 := B3.turns k6 (by intro hh; first | exact False.elim hh | ((try simp only at hh); omega) | (simp at hh; omega))
            have cB3 := B3.cell; have fB3 := B3.frozen
            have K3 : Turns nobody w w6 := (by repeat' (first | exact Turns.refl _ _ | assumption | exact Or.inl rfl | exact Or.inr (Nat.le_refl _) | apply Turns.alloc | apply Turns.drew | apply Turns.drewN | apply Turns.setCell | (apply Or.inr; simp; done) | (apply Or.inr; simp; omega) | exact fun _ hh => False.elim hh | exact fun _ hh => Or.inl hh | (intro i hi; right; (try simp only at hi); omega) | (intro i hi; right; simp at hi; omega) | refine Turns.step ?_ (by assumption) ?_))
            go_wp2_with fail
            go_roundw
            case rel => exact ⟨k + 1, by omega, by go_num, T4, B2, B3, K3⟩
            case measure => simp [intOf]; omega
          · have cB2 := B2.cell; have fB2 := B2.frozen
            have cB3 := B3.cell; have fB3 := B3.frozen
            go_wp2_with fail
            have qB2 := fun (p : Later wr) => (B2.turns p.h (by intro hh; first | exact False.elim hh | ((try simp only at hh); omega) | (simp at hh; omega))).cell
            have qB3 := fun (p : Later wr) => (B3.turns p.h (by intro hh; first | exact False.elim hh | ((try simp only at hh); omega) | (simp at hh; omega))).cell
            have qT3 := fun (p : Later wr) => T3.turns p.h (by intro hh; first | exact False.elim hh | ((try simp only at hh); omega) | (simp at hh; omega))
            refine wp_region_later (by kernel_rfl) (by kernel_rfl) ?_
            repeat (go_big_quiet_step ((go_at_call 14; exact Later.calls (nowT (qT3 _)))))
            refine wpQuiet_nil ?_
            rintro _ ⟨⟨wq, kq⟩, rfl⟩
            clear qB2
            try clear cB2 fB2
            replace B2 := B2.turns kq (by intro hh; first | exact False.elim hh | ((try simp only at hh); omega) | (simp at hh; omega))
            have cB2 := B2.cell; have fB2 := B2.frozen
            clear qB3
            try clear cB3 fB3
            replace B3 := B3.turns kq (by intro hh; first | exact False.elim hh | ((try simp only at hh); omega) | (simp at hh; omega))
            have cB3 := B3.cell; have fB3 := B3.frozen
            clear qT3
            replace T3 := T3.turns kq (by intro hh; first | exact False.elim hh | ((try simp only at hh); omega) | (simp at hh; omega))
            go_wp2_with fail
            go_returns
            exact ⟨rfl, Turns.none_below (by repeat' (first | exact Turns.refl _ _ | assumption | exact Or.inl rfl | exact Or.inr (Nat.le_refl _) | apply Turns.alloc | apply Turns.drew | apply Turns.drewN | apply Turns.setCell | (apply Or.inr; simp; done) | (apply Or.inr; simp; omega) | exact fun _ hh => False.elim hh | exact fun _ hh => Or.inl hh | (intro i hi; right; (try simp only at hi); omega) | (intro i hi; right; simp at hi; omega) | refine Turns.step ?_ (by assumption) ?_))⟩
  · have ha' : 4611686018427387904 ≤ a := by omega
    clear ha
    go_enter Try.func8, Try.ntmps8
    go_wp2_with fail
    refine (shown_at _).mono ?_
    rintro e w1 ⟨rfl, k1⟩
    go_wp2_with fail
    refine (new_bad _ _ ha').mono ?_
    rintro e w2 ⟨rfl, rfl⟩
    go_wp2_with fail
    go_returns
    exact ⟨rfl, Turns.none_below (by repeat' (first | exact Turns.refl _ _ | assumption | exact Or.inl rfl | exact Or.inr (Nat.le_refl _) | apply Turns.alloc | apply Turns.drew | apply Turns.drewN | apply Turns.setCell | (apply Or.inr; simp; done) | (apply Or.inr; simp; omega) | exact fun _ hh => False.elim hh | exact fun _ hh => Or.inl hh | (intro i hi; right; (try simp only at hi); omega) | (intro i hi; right; simp at hi; omega) | refine Turns.step ?_ (by assumption) ?_))⟩

end Go.Proofs.Ytgidfnmblcjoiaa
