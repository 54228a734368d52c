/- The walk of the law 'ClockRises'. -/
import Derived.Test.YtgidfnmblcjoiaaOrder
import Derived.Test.YtgidfnmblcjoiaaBack
set_option linter.unusedVariables false
namespace Go.Proofs.Ytgidfnmblcjoiaa
open Go.RowKit

theorem lessB_of (t u t' u' : Int) : lessB (t / 1000000000) (t % 1000000000) u (t' / 1000000000) (t' % 1000000000) u' = decide (t < t' ∨ t = t' ∧ u < u') := by
  unfold lessB
  rw [decide_eq_decide]
  omega

/-- An element of a list of numbers. -/
theorem nums_at {w : World} {n : Nat} {A : Option Addr} {len cap : Nat} (hf : Fits Try.prog w n 54 [.slice A len cap]) :
    ∀ i, i < len → ∃ (b o : Nat) (x : Int), A = some ⟨b, o, none⟩ ∧ w.cell? ⟨b, o + i, none⟩ = some (.int .u64 x) ∧ 0 ≤ x ∧ x ≤ 18446744073709551615 := by
  obtain ⟨A', len', cap', he, _, _, _, h⟩ := hf.slice Try.underlying54 (by rw [Try.cells22]; decide)
  simp at he
  obtain ⟨rfl, rfl, rfl⟩ := he
  intro i hi
  obtain ⟨b, o, xs, m, hA, hc, hx⟩ := h i hi
  obtain ⟨x, rfl, wx⟩ := hx.int Try.underlying22
  have b0 := bounds_u64 wx
  refine ⟨b, o, x, hA, ?_, b0.1, b0.2⟩
  have := hc 0 _ rfl
  rw [Try.cells22, Nat.mul_one, Nat.add_zero] at this
  exact this

set_option maxRecDepth 100000 in
set_option maxHeartbeats 4000000 in
theorem clockRises_walk (cs : Array Value) (A : Option Addr) (len cap : Nat) (w : World) {n n' : Nat} (hf : Fits Try.prog w n 25 cs.toList) (hA : Fits Try.prog w n' 54 [.slice A len cap]) :
    Calls Try.prog 9 #[.agg cs, .slice A len cap] w fun e w' => e = .returned (.bool true) ∧ Below w.heap.size w w' := by
  obtain ⟨s, ns, u, hcs, s0, s1, n0, n1, u0, u1⟩ := open_time hf
  obtain rfl := arr_of hcs
  have hel := nums_at hA
  obtain ⟨_, _, _, hll, hlc, hcm, _⟩ := hA.slice Try.underlying54 (by rw [Try.cells22]; decide)
  simp at hll
  obtain ⟨rfl, rfl, rfl⟩ := hll
  clear hf hcs hA
  have Hel := hide hel
  clear hel
  have hmax : len ≤ maxLen := Nat.le_trans hlc hcm
  unfold maxLen at hmax
  clear hlc hcm
  by_cases hm : ns < 1000000000
  · obtain ⟨t, e1, e2, t0, t1⟩ : ∃ t : Int, s % 140737488355328 = t / 1000000000 ∧ ns = t % 1000000000 ∧ 0 ≤ t ∧ t < 140737488355328000000000 := ⟨s % 140737488355328 * 1000000000 + ns, by omega, by omega, by omega, by omega⟩
    subst e2
    have E1 := hide e1
    clear e1
    go_enter Try.func9, Try.ntmps9
    go_wp2_with fail
    have B0 := Blk.new w #[.int .u64 s, .int .u32 (t % 1000000000), .int .u32 u] 25
    have cB0 := B0.cell; have fB0 := B0.frozen
    refine (shown_at _).mono ?_
    rintro e w1 ⟨rfl, k1⟩
    try clear cB0 fB0
    replace B0 := B0.turns k1 (by intro hh; first | exact False.elim hh | ((try simp only at hh); omega) | (simp at hh; omega))
    have cB0 := B0.cell; have fB0 := B0.frozen
    have l1 := B0.lt
    go_wp2_with fail
    refine (newT _ _ (by omega)).mono ?_
    rintro e w2 ⟨rfl, T0, k2⟩
    try clear cB0 fB0
    replace B0 := B0.turns k2 (by intro hh; first | exact False.elim hh | ((try simp only at hh); omega) | (simp at hh; omega))
    have cB0 := B0.cell; have fB0 := B0.frozen
    go_wp2_with fail
    rw [E1.out]
    have T0' : CT (w2.setCell ⟨w.heap.size, 0, none⟩ (.int .u64 (t / 1000000000))) w1.heap.size 0 0 0 := ⟨Blk.other T0.at_ (by simp; omega) _, T0.t0, T0.t1, T0.u0, T0.u1⟩
    refine (setT T0' _ _ t0 (by omega) u0 (by omega)).mono ?_
    rintro e w3 ⟨rfl, T1, k3⟩
    have K : Turns nobody w w3 := (by repeat' (first | exact Turns.refl _ _ | assumption | exact Or.inl rfl | exact Or.inr (Nat.le_refl _) | apply Turns.alloc | apply Turns.drew | apply Turns.drewN | apply Turns.setCell | (apply Or.inr; simp; done) | (apply Or.inr; simp; omega) | exact fun _ hh => False.elim hh | exact fun _ hh => Or.inl hh | (intro i hi; right; (try simp only at hi); omega) | (intro i hi; right; simp at hi; omega) | refine Turns.step ?_ (by assumption) ?_))
    clear T0' T0 B0 cB0 fB0
    go_wp2_with fail
    go_loopw [8] (fun i wr => ∃ (k : Nat) (x y a : Int), k ≤ len ∧ k ≤ 200 ∧ i = .int .i64 k ∧ CT wr w1.heap.size x y a ∧ x < 140737488355328000000000 + k * 1073741825 ∧
        Turns nobody w wr) (fun i _ => len - (intOf i).toNat)
    case atStart => exact ⟨0, t, u, 0, Nat.zero_le _, Nat.zero_le _, rfl, T1, by omega, K⟩
    case round =>
      clear T1 K
      obtain ⟨k, x, y, a, hk, hk2, rfl, T2, hx, K2⟩ := hrel
      have x0 := T2.t0
      have y0 := T2.u0
      have y1 := T2.u1
      have l2 := T2.lt
      by_cases hlt : k < len
      · by_cases hlt2 : k < 200
        · obtain ⟨b, o, c, rfl, hc, c0, c1⟩ := Hel.out k hlt
          have hb := block_lt_of_cell hc
          simp only at hb
          go_wp2_with fail
          refine (nowT T2).mono ?_
          rintro e w4 ⟨rfl, k4⟩
          replace T2 := T2.turns k4 (by intro hh; first | exact False.elim hh | ((try simp only at hh); omega) | (simp at hh; omega))
          have B1 := Blk.new w4 #[.int .u64 (x / 1000000000), .int .u32 (x % 1000000000), .int .u32 y] 25
          have l4 := T2.lt
          replace T2 := T2.alloc (.cells #[.int .u64 (x / 1000000000), .int .u32 (x % 1000000000), .int .u32 y] 25)
          have K4 : Turns nobody w (w4.alloc (.cells #[.int .u64 (x / 1000000000), .int .u32 (x % 1000000000), .int .u32 y] 25)) := (by repeat' (first | exact Turns.refl _ _ | assumption | exact Or.inl rfl | exact Or.inr (Nat.le_refl _) | apply Turns.alloc | apply Turns.drew | apply Turns.drewN | apply Turns.setCell | (apply Or.inr; simp; done) | (apply Or.inr; simp; omega) | exact fun _ hh => False.elim hh | exact fun _ hh => Or.inl hh | (intro i hi; right; (try simp only at hi); omega) | (intro i hi; right; simp at hi; omega) | refine Turns.step ?_ (by assumption) ?_))
          have hc4 : (w4.alloc (.cells #[.int .u64 (x / 1000000000), .int .u32 (x % 1000000000), .int .u32 y] 25)).cell? ⟨b, o + k, none⟩ = some (.int .u64 c) := (K4.none_below.cell (by exact hb)).trans hc
          have i0 : (0 : Int) ≤ (k : Int) := by omega
          have i1 : (k : Int) < (len : Int) := by omega
          by_cases hc62 : c < 4611686018427387904
          · skip
            go_wp2_with fail
            refine (fineT T2 _ hc62).mono ?_
            rintro e w5 ⟨rfl, T3, k5⟩
            try clear cB1 fB1
            replace B1 := B1.turns k5 (by intro hh; first | exact False.elim hh | ((try simp only at hh); omega) | (simp at hh; omega))
            have cB1 := B1.cell; have fB1 := B1.frozen
            go_wp2_with fail
            refine (tickT T3 c0 hc62).mono ?_
            rintro e w6 ⟨rfl, T4, k6⟩
            try clear cB1 fB1
            replace B1 := B1.turns k6 (by intro hh; first | exact False.elim hh | ((try simp only at hh); omega) | (simp at hh; omega))
            have cB1 := B1.cell; have fB1 := B1.frozen
            obtain ⟨x', hx'⟩ : ∃ x' : Int, x' = (x + (y + c) / 4294967296) % 281474976710656000000000 := ⟨_, rfl⟩
            obtain ⟨y', hy'⟩ : ∃ y' : Int, y' = (y + c) % 4294967296 := ⟨_, rfl⟩
            rw [← hx', ← hy'] at T4
            have hx2 : x' = x + (y + c) / 4294967296 := by omega
            have L1 : lessB (x' / 1000000000) (x' % 1000000000) y' (x / 1000000000) (x % 1000000000) y = false := by
              rw [lessB_of, decide_eq_false_iff_not]
              omega
            have L2 : lessB (x / 1000000000) (x % 1000000000) y (x' / 1000000000) (x' % 1000000000) y' = decide (0 < c) := by
              rw [lessB_of, decide_eq_decide]
              omega
            have hx3 : x' < 140737488355328000000000 + ((k + 1 : Nat) : Int) * 1073741825 := by omega
            have hn : x' % 1000000000 < 1000000000 := by omega
            have hn' : decide (1000000000 ≤ x' % 1000000000) = false := by simp only [decide_eq_false_iff_not]; omega
            clear hx' hy' hx2
            go_wp2_with fail
            refine (nowT T4).mono ?_
            rintro e w7 ⟨rfl, k7⟩
            try clear cB1 fB1
            replace B1 := B1.turns k7 (by intro hh; first | exact False.elim hh | ((try simp only at hh); omega) | (simp at hh; omega))
            have cB1 := B1.cell; have fB1 := B1.frozen
            replace T4 := T4.turns k7 (by intro hh; first | exact False.elim hh | ((try simp only at hh); omega) | (simp at hh; omega))
            have B2 := Blk.new w7 #[.int .u64 (x' / 1000000000), .int .u32 (x' % 1000000000), .int .u32 y'] 25
            have l7 := T4.lt
            have l8 := B1.lt
            replace T4 := T4.alloc (.cells #[.int .u64 (x' / 1000000000), .int .u32 (x' % 1000000000), .int .u32 y'] 25)
            replace B1 := B1.alloc (.cells #[.int .u64 (x' / 1000000000), .int .u32 (x' % 1000000000), .int .u32 y'] 25)
            have K7 : Turns nobody w (w7.alloc (.cells #[.int .u64 (x' / 1000000000), .int .u32 (x' % 1000000000), .int .u32 y'] 25)) := (by repeat' (first | exact Turns.refl _ _ | assumption | exact Or.inl rfl | exact Or.inr (Nat.le_refl _) | apply Turns.alloc | apply Turns.drew | apply Turns.drewN | apply Turns.setCell | (apply Or.inr; simp; done) | (apply Or.inr; simp; omega) | exact fun _ hh => False.elim hh | exact fun _ hh => Or.inl hh | (intro i hi; right; (try simp only at hi); omega) | (intro i hi; right; simp at hi; omega) | refine Turns.step ?_ (by assumption) ?_))
            have hc7 : (w7.alloc (.cells #[.int .u64 (x' / 1000000000), .int .u32 (x' % 1000000000), .int .u32 y'] 25)).cell? ⟨b, o + k, none⟩ = some (.int .u64 c) := (K7.none_below.cell (by exact hb)).trans hc
            have C1 : ∀ W, Calls Try.prog 15 #[.agg #[.int .u64 (x' / 1000000000), .int .u32 (x' % 1000000000), .int .u32 y'], .agg #[.int .u64 (x / 1000000000), .int .u32 (x % 1000000000), .int .u32 y]] W fun e w' => e = .returned (.bool false) ∧ Turns nobody W w' :=
              fun W => by have h := less_at (x' / 1000000000) (x' % 1000000000) y' (x / 1000000000) (x % 1000000000) y W; rw [L1] at h; exact h
            have C2 : ∀ W, Calls Try.prog 15 #[.agg #[.int .u64 (x / 1000000000), .int .u32 (x % 1000000000), .int .u32 y], .agg #[.int .u64 (x' / 1000000000), .int .u32 (x' % 1000000000), .int .u32 y']] W fun e w' => e = .returned (.bool (decide (0 < c))) ∧ Turns nobody W w' :=
              fun W => by have h := less_at (x / 1000000000) (x % 1000000000) y (x' / 1000000000) (x' % 1000000000) y' W; rw [L2] at h; exact h
            have C1 := hide C1
            have C2 := hide C2
            go_wp2_with fail
            have qx := fun p => Later.cell hc7 p
            have qB1 := fun (p : Later _) => (B1.turns p.h (by intro hh; first | exact False.elim hh | ((try simp only at hh); omega) | (simp at hh; omega))).cell
            have qB2 := fun (p : Later _) => (B2.turns p.h (by intro hh; first | exact False.elim hh | ((try simp only at hh); omega) | (simp at hh; omega))).cell
            have qT4 := fun (p : Later _) => T4.turns p.h (by intro hh; first | exact False.elim hh | ((try simp only at hh); omega) | (simp at hh; omega))
            refine wp_region_later (by kernel_rfl) (by kernel_rfl) ?_
            repeat (go_big_quiet_step ((go_at_call 15; first | (with_reducible exact Later.calls (C1.out _)) | (with_reducible exact Later.calls (C2.out _)))))
            refine wpQuiet_nil ?_
            rintro _ ⟨⟨wq, kq⟩, rfl⟩
            clear qB1
            try clear cB1 fB1
            replace B1 := B1.turns kq (by intro hh; first | exact False.elim hh | ((try simp only at hh); omega) | (simp at hh; omega))
            have cB1 := B1.cell; have fB1 := B1.frozen
            clear qB2
            try clear cB2 fB2
            replace B2 := B2.turns kq (by intro hh; first | exact False.elim hh | ((try simp only at hh); omega) | (simp at hh; omega))
            have cB2 := B2.cell; have fB2 := B2.frozen
            clear qT4
            replace T4 := T4.turns kq (by intro hh; first | exact False.elim hh | ((try simp only at hh); omega) | (simp at hh; omega))
            have K8 : Turns nobody w _ := K7.trans kq
            clear qx hc7 hc4
            go_wp2_with fail
            go_roundw
            case rel => exact ⟨k + 1, x', y', c, by omega, by omega, by go_num, T4, hx3, K8⟩
            case measure => simp [intOf]; omega
          · have hc63 : 4611686018427387904 ≤ c := by omega
            clear hc62
            go_wp2_with fail
            refine (fine_bad _ _ _ hc63).mono ?_
            rintro e w5 ⟨rfl, k5⟩
            replace T2 := T2.turns k5 (by intro hh; first | exact False.elim hh | ((try simp only at hh); omega) | (simp at hh; omega))
            have K5 : Turns nobody w w5 := (by repeat' (first | exact Turns.refl _ _ | assumption | exact Or.inl rfl | exact Or.inr (Nat.le_refl _) | apply Turns.alloc | apply Turns.drew | apply Turns.drewN | apply Turns.setCell | (apply Or.inr; simp; done) | (apply Or.inr; simp; omega) | exact fun _ hh => False.elim hh | exact fun _ hh => Or.inl hh | (intro i hi; right; (try simp only at hi); omega) | (intro i hi; right; simp at hi; omega) | refine Turns.step ?_ (by assumption) ?_))
            go_wp2_with fail
            go_roundw
            case rel => exact ⟨k + 1, x, y, a, by omega, by omega, by go_num, T2, by omega, K5⟩
            case measure => simp [intOf]; omega
        · go_wp2_with fail
          go_returns
          exact ⟨rfl, Turns.none_below (by repeat' (first | exact Turns.refl _ _ | assumption | exact Or.inl rfl | exact Or.inr (Nat.le_refl _) | apply Turns.alloc | apply Turns.drew | apply Turns.drewN | apply Turns.setCell | (apply Or.inr; simp; done) | (apply Or.inr; simp; omega) | exact fun _ hh => False.elim hh | exact fun _ hh => Or.inl hh | (intro i hi; right; (try simp only at hi); omega) | (intro i hi; right; simp at hi; omega) | refine Turns.step ?_ (by assumption) ?_))⟩
      · go_wp2_with fail
        go_returns
        exact ⟨rfl, Turns.none_below (by repeat' (first | exact Turns.refl _ _ | assumption | exact Or.inl rfl | exact Or.inr (Nat.le_refl _) | apply Turns.alloc | apply Turns.drew | apply Turns.drewN | apply Turns.setCell | (apply Or.inr; simp; done) | (apply Or.inr; simp; omega) | exact fun _ hh => False.elim hh | exact fun _ hh => Or.inl hh | (intro i hi; right; (try simp only at hi); omega) | (intro i hi; right; simp at hi; omega) | refine Turns.step ?_ (by assumption) ?_))⟩
  · have hm' : 281474976710656 ≤ s % 140737488355328 ∨ 1000000000 ≤ ns := by omega
    clear hm
    go_enter Try.func9, Try.ntmps9
    go_wp2_with fail
    have B0 := Blk.new w #[.int .u64 s, .int .u32 ns, .int .u32 u] 25
    have cB0 := B0.cell; have fB0 := B0.frozen
    refine (shown_at _).mono ?_
    rintro e w1 ⟨rfl, k1⟩
    try clear cB0 fB0
    replace B0 := B0.turns k1 (by intro hh; first | exact False.elim hh | ((try simp only at hh); omega) | (simp at hh; omega))
    have cB0 := B0.cell; have fB0 := B0.frozen
    have l1 := B0.lt
    go_wp2_with fail
    refine (newT _ _ (by omega)).mono ?_
    rintro e w2 ⟨rfl, T0, k2⟩
    try clear cB0 fB0
    replace B0 := B0.turns k2 (by intro hh; first | exact False.elim hh | ((try simp only at hh); omega) | (simp at hh; omega))
    have cB0 := B0.cell; have fB0 := B0.frozen
    go_wp2_with fail
    refine (set_bad _ _ _ _ _ hm').mono ?_
    rintro e w3 ⟨rfl, k3⟩
    go_wp2_with fail
    go_returns
    exact ⟨rfl, Turns.none_below (by repeat' (first | exact Turns.refl _ _ | assumption | exact Or.inl rfl | exact Or.inr (Nat.le_refl _) | apply Turns.alloc | apply Turns.drew | apply Turns.drewN | apply Turns.setCell | (apply Or.inr; simp; done) | (apply Or.inr; simp; omega) | exact fun _ hh => False.elim hh | exact fun _ hh => Or.inl hh | (intro i hi; right; (try simp only at hi); omega) | (intro i hi; right; simp at hi; omega) | refine Turns.step ?_ (by assumption) ?_))⟩

end Go.Proofs.Ytgidfnmblcjoiaa
