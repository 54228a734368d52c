/- The example at the head of all statements holds. -/
import Derived.Test.YtgidfnmblcjoiaaMore
namespace Go.Proofs.Ytgidfnmblcjoiaa
open Go.RowKit

set_option maxHeartbeats 1000000 in
theorem shown_at (w : World) : Calls Try.prog 10 #[] w fun e w' => e = .returned (.bool true) ∧ Turns nobody w w' := by
  go_enter Try.func10, Try.ntmps10
  go_wp2_with fail
  refine (new_ok _ _ (by omega)).mono ?_
  rintro e w1 ⟨rfl, h1, k1⟩
  go_wp2_with fail
  refine (tick_at _ _ _ _ _ _ h1 (by omega) (by omega) (by omega) (by omega) (by omega) (by omega) (by omega) (by omega)).mono ?_
  rintro e w2 ⟨rfl, h2', k2⟩
  have h2 : ClockAt w2 w.heap.size 0 2 2147483648 10737418240 := by simpa [onS, onN] using h2'
  clear h2'
  go_wp2_with fail
  refine (now_at _ _ _ _ _ _ h2).mono ?_
  rintro e w3 ⟨rfl, k3⟩
  have h3 : ClockAt w3 w.heap.size 0 2 2147483648 10737418240 := Blk.turns h2 k3 (by intro hh; first | exact False.elim hh | ((try simp only at hh); omega) | (simp at hh; omega))
  go_wp2_with fail
  refine (tick_at _ _ _ _ _ _ (Blk.alloc h3 _) (by omega) (by omega) (by omega) (by omega) (by omega) (by omega) (by omega) (by omega)).mono ?_
  rintro e w4 ⟨rfl, h4', k4⟩
  have h4 : ClockAt w4 w.heap.size 0 5 0 10737418240 := by simpa [onS, onN] using h4'
  clear h4'
  have n3 : w.heap.size < w3.heap.size := Blk.lt h3
  have a4 : Blk w4 w3.heap.size #[.int .u64 0, .int .u32 2, .int .u32 2147483648] 25 := (Blk.new w3 _ _).turns k4 (by intro hh; first | exact False.elim hh | ((try simp only at hh); omega) | (simp at hh; omega))
  go_wp2_with fail
  refine (now_at _ _ _ _ _ _ h4).mono ?_
  rintro e w5 ⟨rfl, k5⟩
  have h5 : ClockAt w5 w.heap.size 0 5 0 10737418240 := Blk.turns h4 k5 (by intro hh; first | exact False.elim hh | ((try simp only at hh); omega) | (simp at hh; omega))
  have a5 := a4.turns k5 (by intro hh; first | exact False.elim hh | ((try simp only at hh); omega) | (simp at hh; omega))
  go_wp2_with fail
  refine (adjust_down _ _ _ _ _ 6 _ (Blk.alloc h5 _) (by omega) (by omega) (by omega) (by omega) (by omega) (by omega)).mono ?_
  rintro e w6 ⟨rfl, h6', k6⟩
  have h6 : ClockAt w6 w.heap.size 281474976710655 999999999 0 10737418240 := by simpa [offS, offN, onS, onN] using h6'
  clear h6'
  have n5 : w.heap.size < w5.heap.size := Blk.lt h5
  obtain ⟨_, p0, p1, p2, _, _, _⟩ := ((a5.alloc _).turns k6 (by intro hh; first | exact False.elim hh | ((try simp only at hh); omega) | (simp at hh; omega))).cells3
  obtain ⟨_, q0, q1, q2, _, _, _⟩ := ((Blk.new w5 #[.int .u64 0, .int .u32 5, .int .u32 0] 25).turns k6 (by intro hh; first | exact False.elim hh | ((try simp only at hh); omega) | (simp at hh; omega))).cells3
  go_wp2_with fail
  refine (now_at _ _ _ _ _ _ h6).mono ?_
  rintro e w7 ⟨rfl, k7⟩
  go_wp2
  go_returns
  exact ⟨rfl, (by repeat' (first | exact Turns.refl _ _ | assumption | exact Or.inl rfl | exact Or.inr (Nat.le_refl _) | apply Turns.alloc | apply Turns.drew | apply Turns.drewN | apply Turns.setCell | (apply Or.inr; simp; done) | (apply Or.inr; simp; omega) | exact fun _ hh => False.elim hh | exact fun _ hh => Or.inl hh | (intro i hi; right; (try simp only at hi); omega) | (intro i hi; right; simp at hi; omega) | refine Turns.step ?_ (by assumption) ?_))⟩

end Go.Proofs.Ytgidfnmblcjoiaa
