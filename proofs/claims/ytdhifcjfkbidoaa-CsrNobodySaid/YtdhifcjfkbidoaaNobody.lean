/- The walk of the law 'CsrNobody'. -/
import Derived.Test.YtdhifcjfkbidoaaReal
set_option linter.unusedVariables false
namespace Go.Proofs.Ytdhifcjfkbidoaa
open Go.RowKit Go.Proofs.YtdhifcjfkbidoaaW.PrintWords

set_option maxHeartbeats 1000000 in
theorem csrNobody_walk (a i : Int) (w : World) (wa : (Lit.int .u32 a).wf = true) (wi : (Lit.int .i64 i).wf = true) :
    Calls Try.prog 8 #[.int .u32 a, .int .i64 i] w fun e w' => e = .returned (.bool true) ∧ Below w.heap.size w w' := by
  have ba := bounds_u32 wa
  go_enter Try.func8, Try.ntmps8
  go_wp2_with fail
  refine (shown_at _).mono ?_
  rintro e w1 ⟨rfl, k1⟩
  go_wp2_with fail
  refine (read_nil a _ (by omega) (by omega)).mono ?_
  rintro e w2 ⟨rfl, k2⟩
  go_wp2_with fail
  refine (reset_nil _).mono ?_
  rintro e w3 ⟨rfl, k3⟩
  go_wp2_with fail
  refine (write_nil a 1 _ (by omega) (by omega)).mono ?_
  rintro e w4 ⟨rfl, k4⟩
  go_wp2_with fail
  refine (get_nil i _).mono ?_
  rintro e w5 ⟨rfl, k5⟩
  go_wp2_with fail
  refine (set_nil i 1 _).mono ?_
  rintro e w6 ⟨rfl, k6⟩
  go_wp2_with fail
  refine (raise_nil i 1 _).mono ?_
  rintro e w7 ⟨rfl, k7⟩
  go_wp2_with fail
  refine (line_nil i i _).mono ?_
  rintro e w8 ⟨rfl, k8⟩
  go_wp2_with fail
  go_returns
  exact ⟨rfl, Turns.none_below (by repeat' (first | exact Turns.refl _ _ | assumption | exact Or.inl rfl | exact Or.inr (Nat.le_refl _) | apply Turns.alloc | apply Turns.drew | apply Turns.drewN | apply Turns.setCell | (apply Or.inr; simp; done) | (apply Or.inr; simp; omega) | exact fun _ hh => False.elim hh | exact fun _ hh => Or.inl hh | (intro i hi; right; (try simp only at hi); omega) | (intro i hi; right; simp at hi; omega) | refine Turns.step ?_ (by assumption) ?_))⟩

end Go.Proofs.Ytdhifcjfkbidoaa
