/- The walk of the law 'RingRounds'. -/
import Derived.Test.YtefgcdpceeeeaaaShown
set_option linter.unusedVariables false
namespace Go.Proofs.Ytefgcdpceeeeaaa
open Go.RowKit Go.Proofs.YtefgcdpceeeeaaaW.PrintWords

set_option maxHeartbeats 1000000 in
set_option maxRecDepth 100000 in
theorem ringRounds_walk (x y : Int) (w : World) (wx : (Lit.int .u8 x).wf = true) (wy : (Lit.int .u16 y).wf = true) :
    Calls Try.prog 6 #[.int .u8 x, .int .u16 y] w fun e w' => e = .returned (.bool true) ∧ Below w.heap.size w w' := by
  have bx := bounds_u8 wx
  have by' := bounds_u16 wy
  obtain ⟨N, hN⟩ : ∃ N : Int, N = 2 + x % 63 := ⟨_, rfl⟩
  obtain ⟨M, hM⟩ : ∃ M : Nat, (M : Int) = y % 1000 := ⟨(y % 1000).toNat, by omega⟩
  have t1 : Int.tmod x 63 = N - 2 := by rw [Int.tmod_eq_emod_of_nonneg bx.1]; omega
  have t2 : Int.tmod y 1000 = M := by rw [Int.tmod_eq_emod_of_nonneg by'.1]; omega
  have n0 : 2 ≤ N := by omega
  have n1 : N ≤ 64 := by omega
  have m1 : M < 1000 := by omega
  have x1 : x % 63 = N - 2 := by omega
  have x2 : y % 1000 = M := hM.symm
  have x3 : 2 + (N - 2) = N := by omega
  clear hN hM wx wy
  go_enter Try.func6, Try.ntmps6
  go_wp2_with fail
  refine (shown_at _).mono ?_
  rintro e w1 ⟨rfl, k1⟩
  go_wp2_with fail
  refine (new_ok N _ n0 n1).mono ?_
  rintro e w2 ⟨rfl, R0, k2⟩
  have K2 : Turns nobody w w2 := (by repeat' (first | exact Turns.refl _ _ | assumption | exact Or.inl rfl | exact Or.inr (Nat.le_refl _) | apply Turns.alloc | apply Turns.drew | apply Turns.drewN | apply Turns.setCell | (apply Or.inr; simp; done) | (apply Or.inr; simp; omega) | exact fun _ hh => False.elim hh | exact fun _ hh => Or.inl hh | (intro i hi; right; (try simp only at hi); omega) | (intro i hi; right; simp at hi; omega) | refine Turns.step ?_ (by assumption) ?_))
  have l1 := k1.size
  have R0 : RG w2 w1.heap.size N (((0 : Nat) : Int) % N) 0 := by
    rw [show ((0 : Nat) : Int) % N = 0 from by simp]; exact R0
  go_wp2_with fail
  go_loopw [9] (fun i wr => ∃ k : Nat, k ≤ M ∧ i = .int .i64 k ∧ RG wr w1.heap.size N ((k : Int) % N) 0 ∧ Turns nobody w wr) (fun i _ => M - (intOf i).toNat)
  case atStart => exact ⟨0, Nat.zero_le _, rfl, R0, K2⟩
  case round =>
    clear R0 K2
    obtain ⟨k, hk, rfl, R, K⟩ := hrel
    by_cases hlt : k < M
    · have f0 := R.f0
      have tk : Int.tmod (k : Int) N = (k : Int) % N := Int.tmod_eq_emod_of_nonneg (by omega)
      have lr := R.lt
      go_wp2_with fail
      refine (put_ok R 1 (by omega) (by omega)).mono ?_
      rintro e w4 ⟨v, rfl, q4, R4, k4⟩
      obtain ⟨A, c, rfl, I4, n4⟩ := ints_of_row q4 (upto_length _ _ _ _)
      rw [show upto N ((k : Int) % N) 0 1 = [(k : Int) % N] from by simp [upto, placeOf_first f0]] at I4
      go_wp2_with fail
      refine (take_ok R4 (by omega)).mono ?_
      rintro e w5 ⟨rfl, R5, k5⟩
      have I5 := I4.turns k5 (fun a ha e => by have := n4 a ha; omega)
      obtain ⟨b1, o1, rfl, hb1, c1⟩ := I5 0 _ rfl
      rw [Nat.add_zero] at c1
      have K5 : Turns nobody w w5 := Turns.step (Turns.step K k4 (fun i hi => .inr (by have e : i = w1.heap.size := hi; omega))) k5 (fun i hi => .inr (by have e : i = w1.heap.size := hi; omega))
      have R5 : RG w5 w1.heap.size N (((k + 1 : Nat) : Int) % N) 0 := by
        have e1 : ((k : Int) % N + 1) % N = ((k + 1 : Nat) : Int) % N := by rw [Int.emod_add_emod]; simp
        rw [e1] at R5
        exact R5
      have hn0 : ¬ N = 0 := by omega
      have i1 : (0 : Int) < 1 := by omega
      clear I4 I5 q4 n4 R4
      go_wp2_with fail
      go_quiet (fail)
      go_wp2_with fail
      go_roundw
      case rel => exact ⟨k + 1, by omega, by go_num, R5.still (by repeat' (first | exact Turns.refl _ _ | assumption | exact Or.inl rfl | exact Or.inr (Nat.le_refl _) | apply Turns.alloc | apply Turns.drew | apply Turns.drewN | apply Turns.setCell | (apply Or.inr; simp; done) | (apply Or.inr; simp; omega) | exact fun _ hh => False.elim hh | exact fun _ hh => Or.inl hh | (intro i hi; right; (try simp only at hi); omega) | (intro i hi; right; simp at hi; omega) | refine Turns.step ?_ (by assumption) ?_)), (by repeat' (first | exact Turns.refl _ _ | assumption | exact Or.inl rfl | exact Or.inr (Nat.le_refl _) | apply Turns.alloc | apply Turns.drew | apply Turns.drewN | apply Turns.setCell | (apply Or.inr; simp; done) | (apply Or.inr; simp; omega) | exact fun _ hh => False.elim hh | exact fun _ hh => Or.inl hh | (intro i hi; right; (try simp only at hi); omega) | (intro i hi; right; simp at hi; omega) | refine Turns.step ?_ (by assumption) ?_))⟩
      case measure => simp [intOf]; omega
    · obtain rfl : k = M := by omega
      go_wp2_with fail
      refine (used_at R.blk).mono ?_
      rintro e w4 ⟨rfl, k4⟩
      have R4 := R.still k4
      go_wp2_with fail
      refine (size_at R4.blk).mono ?_
      rintro e w5 ⟨rfl, k5⟩
      go_wp2_with fail
      go_returns
      exact ⟨rfl, Turns.none_below (by repeat' (first | exact Turns.refl _ _ | assumption | exact Or.inl rfl | exact Or.inr (Nat.le_refl _) | apply Turns.alloc | apply Turns.drew | apply Turns.drewN | apply Turns.setCell | (apply Or.inr; simp; done) | (apply Or.inr; simp; omega) | exact fun _ hh => False.elim hh | exact fun _ hh => Or.inl hh | (intro i hi; right; (try simp only at hi); omega) | (intro i hi; right; simp at hi; omega) | refine Turns.step ?_ (by assumption) ?_))⟩

end Go.Proofs.Ytefgcdpceeeeaaa
