/- The walks of the clock's laws. -/
import Derived.Test.YtgidfnmblcjoiaaShown
import Derived.Test.YtgidfnmblcjoiaaOpens
namespace Go.Proofs.Ytgidfnmblcjoiaa
open Go.RowKit

theorem Try.cells22 : Try.prog.cellsOf 22 = 1 := by kernel_rfl
theorem Try.cells23 : Try.prog.cellsOf 23 = 1 := by kernel_rfl
theorem Try.cells25 : Try.prog.cellsOf 25 = 3 := by kernel_rfl

theorem list3 {α : Type} {l : List α} (h : l.length = 3) : ∃ a b c, l = [a, b, c] := by
  match l, h with
  | [a, b, c], _ => exact ⟨a, b, c, rfl⟩

/-- A time's cells. -/
theorem open_time {w : World} {n : Nat} {cs : List Value} (h : Fits Try.prog w n 25 cs) :
    ∃ s ns u : Int, cs = [.int .u64 s, .int .u32 ns, .int .u32 u] ∧ 0 ≤ s ∧ s ≤ 18446744073709551615 ∧ 0 ≤ ns ∧ ns ≤ 4294967295 ∧ 0 ≤ u ∧ u ≤ 4294967295 := by
  obtain ⟨hl, hf⟩ := h.struct Try.underlying25
  rw [Try.cells25] at hl
  obtain ⟨c0, c1, c2, rfl⟩ := list3 hl
  obtain ⟨m0, f0⟩ := hf 0 _ rfl
  obtain ⟨m1, f1⟩ := hf 1 _ rfl
  obtain ⟨m2, f2⟩ := hf 2 _ rfl
  simp [Try.cells22, Try.cells23] at f0 f1 f2
  obtain ⟨s, h0, w0⟩ := f0.int Try.underlying22
  obtain ⟨ns, h1, w1⟩ := f1.int Try.underlying23
  obtain ⟨u, h2, w2⟩ := f2.int Try.underlying23
  simp at h0 h1 h2
  subst h0 h1 h2
  have b0 := bounds_u64 w0
  have b1 := bounds_u32 w1
  have b2 := bounds_u32 w2
  exact ⟨s, ns, u, rfl, b0.1, b0.2, b1.1, b1.2, b2.1, b2.2⟩

theorem arr_of {cs : Array Value} {l : List Value} (h : cs.toList = l) : cs = l.toArray := by subst h; rfl

set_option maxHeartbeats 400000 in
theorem set_nil (s n u : Int) (w : World) :
    Calls Try.prog 12 #[.pointer none, .agg #[.int .u64 s, .int .u32 n, .int .u32 u]] w fun e w' => e = .returned (.int .i64 1) ∧ Turns nobody w w' := by
  go_enter Try.func12, Try.ntmps12
  go_wp2
  all_goals go_returns
  all_goals exact ⟨rfl, (by repeat' (first | exact Turns.refl _ _ | assumption | exact Or.inl rfl | exact Or.inr (Nat.le_refl _) | apply Turns.alloc | apply Turns.drew | apply Turns.drewN | apply Turns.setCell | (apply Or.inr; simp; done) | (apply Or.inr; simp; omega) | exact fun _ hh => False.elim hh | exact fun _ hh => Or.inl hh | (intro i hi; right; (try simp only at hi); omega) | (intro i hi; right; simp at hi; omega) | refine Turns.step ?_ (by assumption) ?_))⟩

set_option maxHeartbeats 400000 in
theorem clockNobody_walk (x a : Int) (w : World) (_wx : (Lit.int .i64 x).wf = true) (_wa : (Lit.int .u64 a).wf = true) :
    Calls Try.prog 7 #[.int .i64 x, .int .u64 a] w fun e w' => e = .returned (.bool true) ∧ Below w.heap.size w w' := by
  go_enter Try.func7, Try.ntmps7
  go_wp2_with fail
  refine (shown_at _).mono ?_
  rintro e w1 ⟨rfl, k1⟩
  go_wp2_with fail
  refine (nil_calls 0 0 _).2.2.mono ?_
  rintro e w2 ⟨rfl, k2⟩
  go_wp2_with fail
  refine (now_nil _).mono ?_
  rintro e w3 ⟨rfl, k3⟩
  go_wp2_with fail
  refine (set_nil _ _ _ _).mono ?_
  rintro e w4 ⟨rfl, k4⟩
  go_wp2_with fail
  refine (nil_calls _ 0 _).2.1.mono ?_
  rintro e w5 ⟨rfl, k5⟩
  go_wp2_with fail
  refine (nil_calls 0 _ _).1.mono ?_
  rintro e w6 ⟨rfl, k6⟩
  go_wp2_with fail
  go_returns
  exact ⟨rfl, Turns.none_below (by repeat' (first | exact Turns.refl _ _ | assumption | exact Or.inl rfl | exact Or.inr (Nat.le_refl _) | apply Turns.alloc | apply Turns.drew | apply Turns.drewN | apply Turns.setCell | (apply Or.inr; simp; done) | (apply Or.inr; simp; omega) | exact fun _ hh => False.elim hh | exact fun _ hh => Or.inl hh | (intro i hi; right; (try simp only at hi); omega) | (intro i hi; right; simp at hi; omega) | refine Turns.step ?_ (by assumption) ?_))⟩

end Go.Proofs.Ytgidfnmblcjoiaa
