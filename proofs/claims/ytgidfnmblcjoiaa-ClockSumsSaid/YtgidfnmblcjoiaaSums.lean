/- The walk of the law 'ClockSums'. -/
import Derived.Test.YtgidfnmblcjoiaaBack
set_option linter.unusedVariables false
namespace Go.Proofs.Ytgidfnmblcjoiaa
open Go.RowKit

/-- A clock's time after k ticks of a. -/
def runT (t u a : Int) (k : Nat) : Int := (t + (u + k * a) / 4294967296) % 281474976710656000000000
def runU (u a : Int) (k : Nat) : Int := (u + k * a) % 4294967296

theorem runT_0 (t u a : Int) (t0 : 0 ≤ t) (t1 : t < 281474976710656000000000) (u0 : 0 ≤ u) (u1 : u < 4294967296) : runT t u a 0 = t := by
  unfold runT
  simp only [Int.natCast_zero, Int.zero_mul]
  omega
theorem runU_0 (u a : Int) (u0 : 0 ≤ u) (u1 : u < 4294967296) : runU u a 0 = u := by
  unfold runU
  simp only [Int.natCast_zero, Int.zero_mul]
  omega
theorem runT_s (t u a : Int) (k : Nat) : runT t u a (k + 1) = (runT t u a k + (runU u a k + a) / 4294967296) % 281474976710656000000000 := by
  unfold runT runU
  rw [show ((k + 1 : Nat) : Int) * a = k * a + a from by rw [Int.natCast_add, Int.add_mul]; simp]
  generalize (k : Int) * a = z
  omega
theorem runU_s (u a : Int) (k : Nat) : runU u a (k + 1) = (runU u a k + a) % 4294967296 := by
  unfold runU
  rw [show ((k + 1 : Nat) : Int) * a = k * a + a from by rw [Int.natCast_add, Int.add_mul]; simp]
  generalize (k : Int) * a = z
  omega
theorem runT_sum (t u a b : Int) (k : Nat) : runT (runT t u a k) (runU u a k) b k = runT t u (a + b) k := by
  unfold runT runU
  rw [Int.mul_add]
  generalize (k : Int) * a = y
  generalize (k : Int) * b = z
  omega
theorem runU_sum (u a b : Int) (k : Nat) : runU (runU u a k) b k = runU u (a + b) k := by
  unfold runU
  rw [Int.mul_add]
  generalize (k : Int) * a = y
  generalize (k : Int) * b = z
  omega
theorem tickR {b : Nat} {t u a : Int} {k : Nat} {w : World} (h : CT w b (runT t u a k) (runU u a k) a) (ha0 : 0 ≤ a) (ha : a < 4611686018427387904) :
    Calls Try.prog 18 #[.pointer (some ⟨b, 0, none⟩)] w fun e w' => e = .returned (.tuple #[]) ∧ CT w' b (runT t u a (k + 1)) (runU u a (k + 1)) a ∧ Turns (· = b) w w' := by
  rw [runT_s, runU_s]
  exact tickT h ha0 ha

set_option maxHeartbeats 2000000 in
theorem clockSums_walk (cs : Array Value) (a b m : Int) (w : World) {n : Nat} (hf : Fits Try.prog w n 25 cs.toList) (wa : (Lit.int .u64 a).wf = true) (wb : (Lit.int .u64 b).wf = true) (wm : (Lit.int .u8 m).wf = true) :
    Calls Try.prog 6 #[.agg cs, .int .u64 a, .int .u64 b, .int .u8 m] w fun e w' => e = .returned (.bool true) ∧ Below w.heap.size w w' := by
  obtain ⟨s, ns, u, hcs, s0, s1, n0, n1, u0, u1⟩ := open_time hf
  obtain rfl := arr_of hcs
  clear hf hcs
  have bm := bounds_u8 wm
  have ba := bounds_u64 wa
  have bb := bounds_u64 wb
  clear wm wa wb
  obtain ⟨m, rfl⟩ := Int.eq_ofNat_of_zero_le bm.1
  by_cases hm : s < 281474976710656 ∧ ns < 1000000000
  · obtain ⟨t, rfl, rfl, t0, t1⟩ := time_may s ns s0 hm.1 n0 hm.2
    clear hm s0 s1 n0 n1
    go_enter Try.func6, Try.ntmps6
    go_wp2_with fail
    have B0 := Blk.new w #[.int .u64 (t / 1000000000), .int .u32 (t % 1000000000), .int .u32 u] 25
    have cB0 := B0.cell; have fB0 := B0.frozen
    refine (shown_at _).mono ?_
    rintro e w1 ⟨rfl, k1⟩
    try clear cB0 fB0
    replace B0 := B0.turns k1 (by intro hh; first | exact False.elim hh | ((try simp only at hh); omega) | (simp at hh; omega))
    have cB0 := B0.cell; have fB0 := B0.frozen
    have l1 := B0.lt
    go_wp2_with fail
    refine (newT _ _ (by omega)).mono ?_
    rintro e w2 ⟨rfl, T0, k2⟩
    try clear cB0 fB0
    replace B0 := B0.turns k2 (by intro hh; first | exact False.elim hh | ((try simp only at hh); omega) | (simp at hh; omega))
    have cB0 := B0.cell; have fB0 := B0.frozen
    have l2 := T0.lt
    go_wp2_with fail
    refine (newT _ _ (by omega)).mono ?_
    rintro e w3 ⟨rfl, T1, k3⟩
    try clear cB0 fB0
    replace B0 := B0.turns k3 (by intro hh; first | exact False.elim hh | ((try simp only at hh); omega) | (simp at hh; omega))
    have cB0 := B0.cell; have fB0 := B0.frozen
    replace T0 := T0.turns k3 (by intro hh; first | exact False.elim hh | ((try simp only at hh); omega) | (simp at hh; omega))
    go_wp2_with fail
    refine (setT T0 _ _ t0 t1 u0 (by omega)).mono ?_
    rintro e w4 ⟨rfl, T2, k4⟩
    try clear cB0 fB0
    replace B0 := B0.turns k4 (by intro hh; first | exact False.elim hh | ((try simp only at hh); omega) | (simp at hh; omega))
    have cB0 := B0.cell; have fB0 := B0.frozen
    replace T1 := T1.turns k4 (by intro hh; first | exact False.elim hh | ((try simp only at hh); omega) | (simp at hh; omega))
    go_wp2_with fail
    refine (setT T1 _ _ t0 t1 u0 (by omega)).mono ?_
    rintro e w5 ⟨rfl, T3, k5⟩
    try clear cB0 fB0
    replace B0 := B0.turns k5 (by intro hh; first | exact False.elim hh | ((try simp only at hh); omega) | (simp at hh; omega))
    have cB0 := B0.cell; have fB0 := B0.frozen
    replace T2 := T2.turns k5 (by intro hh; first | exact False.elim hh | ((try simp only at hh); omega) | (simp at hh; omega))
    have K : Turns nobody w w5 := (by repeat' (first | exact Turns.refl _ _ | assumption | exact Or.inl rfl | exact Or.inr (Nat.le_refl _) | apply Turns.alloc | apply Turns.drew | apply Turns.drewN | apply Turns.setCell | (apply Or.inr; simp; done) | (apply Or.inr; simp; omega) | exact fun _ hh => False.elim hh | exact fun _ hh => Or.inl hh | (intro i hi; right; (try simp only at hi); omega) | (intro i hi; right; simp at hi; omega) | refine Turns.step ?_ (by assumption) ?_))
    have T2' : CT w5 w1.heap.size (runT t u (a / 8) 0) (runU u (a / 8) 0) (a / 8) := by rw [runT_0 _ _ _ t0 t1 u0 (by omega), runU_0 _ _ u0 (by omega)]; exact T2
    have T3' : CT w5 w2.heap.size (runT t u (a / 8 + b / 8) 0) (runU u (a / 8 + b / 8) 0) (a / 8 + b / 8) := by rw [runT_0 _ _ _ t0 t1 u0 (by omega), runU_0 _ _ u0 (by omega)]; exact T3
    go_wp2_with fail
    go_loopw [14] (fun i wr => ∃ k : Nat, k ≤ m ∧ i = .int .i64 k ∧ CT wr w1.heap.size (runT t u (a / 8) k) (runU u (a / 8) k) (a / 8) ∧ CT wr w2.heap.size (runT t u (a / 8 + b / 8) k) (runU u (a / 8 + b / 8) k) (a / 8 + b / 8) ∧
        Turns nobody w wr) (fun i _ => m - (intOf i).toNat)
    case atStart => exact ⟨0, Nat.zero_le _, rfl, T2', T3', K⟩
    case round =>
      clear T2' T3'
      obtain ⟨k, hk, rfl, T2, T3, K2⟩ := hrel
      by_cases hlt : k < m
      · skip
        go_wp2_with fail
        refine (tickR T2 (by omega) (by omega)).mono ?_
        rintro e w6 ⟨rfl, T4, k6⟩
        replace T3 := T3.turns k6 (by intro hh; first | exact False.elim hh | ((try simp only at hh); omega) | (simp at hh; omega))
        go_wp2_with fail
        refine (tickR T3 (by omega) (by omega)).mono ?_
        rintro e w7 ⟨rfl, T5, k7⟩
        replace T4 := T4.turns k7 (by intro hh; first | exact False.elim hh | ((try simp only at hh); omega) | (simp at hh; omega))
        have K3 : Turns nobody w w7 := (by repeat' (first | exact Turns.refl _ _ | assumption | exact Or.inl rfl | exact Or.inr (Nat.le_refl _) | apply Turns.alloc | apply Turns.drew | apply Turns.drewN | apply Turns.setCell | (apply Or.inr; simp; done) | (apply Or.inr; simp; omega) | exact fun _ hh => False.elim hh | exact fun _ hh => Or.inl hh | (intro i hi; right; (try simp only at hi); omega) | (intro i hi; right; simp at hi; omega) | refine Turns.step ?_ (by assumption) ?_))
        go_wp2_with fail
        go_roundw
        case rel => exact ⟨k + 1, by omega, by go_num, T4, T5, K3⟩
        case measure => simp [intOf]; omega
      · obtain rfl : k = m := by omega
        go_wp2_with fail
        refine (fineT T2 _ (by omega)).mono ?_
        rintro e w6 ⟨rfl, T4, k6⟩
        replace T3 := T3.turns k6 (by intro hh; first | exact False.elim hh | ((try simp only at hh); omega) | (simp at hh; omega))
        have K3 : Turns nobody w w6 := (by repeat' (first | exact Turns.refl _ _ | assumption | exact Or.inl rfl | exact Or.inr (Nat.le_refl _) | apply Turns.alloc | apply Turns.drew | apply Turns.drewN | apply Turns.setCell | (apply Or.inr; simp; done) | (apply Or.inr; simp; omega) | exact fun _ hh => False.elim hh | exact fun _ hh => Or.inl hh | (intro i hi; right; (try simp only at hi); omega) | (intro i hi; right; simp at hi; omega) | refine Turns.step ?_ (by assumption) ?_))
        have T5 : CT w6 w1.heap.size (runT (runT t u (a / 8) k) (runU u (a / 8) k) (b / 8) 0) (runU (runU u (a / 8) k) (b / 8) 0) (b / 8) := by
          rw [runT_0 _ _ _ T4.t0 T4.t1 T4.u0 T4.u1, runU_0 _ _ T4.u0 T4.u1]; exact T4
        go_wp2_with fail
        obtain ⟨wo, rfl⟩ : ∃ wo : World, wo = w6 := ⟨_, rfl⟩
        go_loopw [15] (fun i wr => ∃ j : Nat, j ≤ k ∧ i = .int .i64 j ∧ CT wr w1.heap.size (runT (runT t u (a / 8) k) (runU u (a / 8) k) (b / 8) j) (runU (runU u (a / 8) k) (b / 8) j) (b / 8) ∧
            CT wr w2.heap.size (runT t u (a / 8 + b / 8) k) (runU u (a / 8 + b / 8) k) (a / 8 + b / 8) ∧ Turns nobody w wr) (fun i _ => k - (intOf i).toNat)
        case atStart => exact ⟨0, Nat.zero_le _, rfl, T5, T3, K3⟩
        case round =>
          clear T5 T4 K3 T3
          obtain ⟨j, hj, rfl, T5, T3, K3⟩ := hrel
          by_cases hlt2 : j < k
          · skip
            go_wp2_with fail
            refine (tickR T5 (by omega) (by omega)).mono ?_
            rintro e w7 ⟨rfl, T6, k7⟩
            replace T3 := T3.turns k7 (by intro hh; first | exact False.elim hh | ((try simp only at hh); omega) | (simp at hh; omega))
            have K4 : Turns nobody w w7 := (by repeat' (first | exact Turns.refl _ _ | assumption | exact Or.inl rfl | exact Or.inr (Nat.le_refl _) | apply Turns.alloc | apply Turns.drew | apply Turns.drewN | apply Turns.setCell | (apply Or.inr; simp; done) | (apply Or.inr; simp; omega) | exact fun _ hh => False.elim hh | exact fun _ hh => Or.inl hh | (intro i hi; right; (try simp only at hi); omega) | (intro i hi; right; simp at hi; omega) | refine Turns.step ?_ (by assumption) ?_))
            go_wp2_with fail
            go_roundw
            case rel => exact ⟨j + 1, by omega, by go_num, T6, T3, K4⟩
            case measure => simp [intOf]; omega
          · obtain rfl : j = k := by omega
            rw [runT_sum, runU_sum] at T5
            go_wp2_with fail
            refine (nowT T5).mono ?_
            rintro e w7 ⟨rfl, k7⟩
            replace T3 := T3.turns k7 (by intro hh; first | exact False.elim hh | ((try simp only at hh); omega) | (simp at hh; omega))
            go_wp2_with fail
            refine (nowT T3).mono ?_
            rintro e w8 ⟨rfl, k8⟩
            go_wp2_with fail
            go_returns
            exact ⟨rfl, Turns.none_below (by repeat' (first | exact Turns.refl _ _ | assumption | exact Or.inl rfl | exact Or.inr (Nat.le_refl _) | apply Turns.alloc | apply Turns.drew | apply Turns.drewN | apply Turns.setCell | (apply Or.inr; simp; done) | (apply Or.inr; simp; omega) | exact fun _ hh => False.elim hh | exact fun _ hh => Or.inl hh | (intro i hi; right; (try simp only at hi); omega) | (intro i hi; right; simp at hi; omega) | refine Turns.step ?_ (by assumption) ?_))⟩
  · have hm' : 281474976710656 ≤ s ∨ 1000000000 ≤ ns := by omega
    clear hm
    go_enter Try.func6, Try.ntmps6
    go_wp2_with fail
    have B0 := Blk.new w #[.int .u64 s, .int .u32 ns, .int .u32 u] 25
    have cB0 := B0.cell; have fB0 := B0.frozen
    refine (shown_at _).mono ?_
    rintro e w1 ⟨rfl, k1⟩
    try clear cB0 fB0
    replace B0 := B0.turns k1 (by intro hh; first | exact False.elim hh | ((try simp only at hh); omega) | (simp at hh; omega))
    have cB0 := B0.cell; have fB0 := B0.frozen
    have l1 := B0.lt
    go_wp2_with fail
    refine (newT _ _ (by omega)).mono ?_
    rintro e w2 ⟨rfl, T0, k2⟩
    try clear cB0 fB0
    replace B0 := B0.turns k2 (by intro hh; first | exact False.elim hh | ((try simp only at hh); omega) | (simp at hh; omega))
    have cB0 := B0.cell; have fB0 := B0.frozen
    go_wp2_with fail
    refine (newT _ _ (by omega)).mono ?_
    rintro e w3 ⟨rfl, T1, k3⟩
    try clear cB0 fB0
    replace B0 := B0.turns k3 (by intro hh; first | exact False.elim hh | ((try simp only at hh); omega) | (simp at hh; omega))
    have cB0 := B0.cell; have fB0 := B0.frozen
    replace T0 := T0.turns k3 (by intro hh; first | exact False.elim hh | ((try simp only at hh); omega) | (simp at hh; omega))
    go_wp2_with fail
    refine (set_bad _ _ _ _ _ hm').mono ?_
    rintro e w4 ⟨rfl, k4⟩
    go_wp2_with fail
    go_returns
    exact ⟨rfl, Turns.none_below (by repeat' (first | exact Turns.refl _ _ | assumption | exact Or.inl rfl | exact Or.inr (Nat.le_refl _) | apply Turns.alloc | apply Turns.drew | apply Turns.drewN | apply Turns.setCell | (apply Or.inr; simp; done) | (apply Or.inr; simp; omega) | exact fun _ hh => False.elim hh | exact fun _ hh => Or.inl hh | (intro i hi; right; (try simp only at hi); omega) | (intro i hi; right; simp at hi; omega) | refine Turns.step ?_ (by assumption) ?_))⟩

end Go.Proofs.Ytgidfnmblcjoiaa
