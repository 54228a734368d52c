/- The walks of the laws 'QueueNobody', 'QueueOnce'. -/
import Derived.Test.YtklicfagdpjhdaaShown
set_option linter.unusedVariables false
namespace Go.Proofs.Ytklicfagdpjhdaa
open Go.RowKit Go.Proofs.YtklicfagdpjhdaaW.PrintWords

theorem Try.cells5 : Try.prog.cellsOf 5 = 1 := by kernel_rfl
theorem Try.cells22 : Try.prog.cellsOf 22 = 1 := by kernel_rfl
theorem Try.cells29 : Try.prog.cellsOf 29 = 1 := by kernel_rfl
theorem Try.cells30 : Try.prog.cellsOf 30 = 1 := by kernel_rfl
theorem Try.cells32 : Try.prog.cellsOf 32 = 3 := by kernel_rfl
theorem Try.cells34 : Try.prog.cellsOf 34 = 4 := by kernel_rfl
theorem list3 {α : Type} {l : List α} (h : l.length = 3) : ∃ a b c, l = [a, b, c] := by
  match l, h with
  | [a, b, c], _ => exact ⟨a, b, c, rfl⟩
theorem list4 {α : Type} {l : List α} (h : l.length = 4) : ∃ a b c d, l = [a, b, c, d] := by
  match l, h with
  | [a, b, c, d], _ => exact ⟨a, b, c, d, rfl⟩
theorem arr_of {cs : Array Value} {l : List Value} (h : cs.toList = l) : cs = l.toArray := by subst h; rfl

/-- A time's cells. -/
theorem open_time {w : World} {n : Nat} {cs : List Value} (h : Fits Try.prog w n 32 cs) :
    ∃ s ns u : Int, cs = [.int .u64 s, .int .u32 ns, .int .u32 u] ∧ 0 ≤ s ∧ s ≤ 18446744073709551615 ∧ 0 ≤ ns ∧ ns ≤ 4294967295 ∧ 0 ≤ u ∧ u ≤ 4294967295 := by
  obtain ⟨hl, hf⟩ := h.struct Try.underlying32
  rw [Try.cells32] at hl
  obtain ⟨c0, c1, c2, rfl⟩ := list3 hl
  obtain ⟨m0, f0⟩ := hf 0 _ rfl
  obtain ⟨m1, f1⟩ := hf 1 _ rfl
  obtain ⟨m2, f2⟩ := hf 2 _ rfl
  simp [Try.cells29, Try.cells30] at f0 f1 f2
  obtain ⟨s, h0, w0⟩ := f0.int Try.underlying29
  obtain ⟨ns, h1, w1⟩ := f1.int Try.underlying30
  obtain ⟨u, h2, w2⟩ := f2.int Try.underlying30
  simp at h0 h1 h2
  subst h0 h1 h2
  have b0 := bounds_u64 w0
  have b1 := bounds_u32 w1
  have b2 := bounds_u32 w2
  exact ⟨s, ns, u, rfl, b0.1, b0.2, b1.1, b1.2, b2.1, b2.2⟩

/-- A frame's cells. -/
theorem open_raw {w : World} {n : Nat} {cs : List Value} (h : Fits Try.prog w n 34 cs) :
    ∃ (A : Option Addr) (cap : Nat) (f : Fr), cs = [.slice A f.bs.length cap, .int .u64 f.s, .int .u32 f.n, .int .u32 f.u] ∧ ReadsB w A f.bs ∧ f.bs.length ≤ cap ∧ cap ≤ maxLen := by
  obtain ⟨hl, hf⟩ := h.struct Try.underlying34
  rw [Try.cells34] at hl
  obtain ⟨c0, c1, c2, c3, rfl⟩ := list4 hl
  obtain ⟨m0, f0⟩ := hf 0 _ rfl
  obtain ⟨m1, f1⟩ := hf 1 _ rfl
  simp [Try.cells22, Try.cells32] at f0 f1
  obtain ⟨s, ns, u, h1, _⟩ := open_time f1
  simp at h1
  obtain ⟨rfl, rfl, rfl⟩ := h1
  obtain ⟨A, len, cap, h0, _⟩ := f0.slice Try.underlying22 (by rw [Try.cells5]; decide)
  simp at h0
  subst h0
  obtain ⟨bs, rfl, hr, _, hl, hm⟩ := open_bytes f0 Try.underlying22 Try.underlying5 Try.cells5
  exact ⟨A, cap, ⟨bs, s, ns, u⟩, rfl, hr, hl, hm⟩

set_option maxHeartbeats 400000 in
theorem nil_others (w : World) : Calls Try.prog 21 #[.pointer none] w (fun e w' => e = .returned (.tuple #[]) ∧ Turns nobody w w') ∧ Calls Try.prog 16 #[.pointer none] w (fun e w' => e = .returned (.int .i64 0) ∧ Turns nobody w w') ∧
    Calls Try.prog 15 #[.pointer none] w (fun e w' => e = .returned (.int .i64 0) ∧ Turns nobody w w') ∧ Calls Try.prog 14 #[.pointer none] w (fun e w' => e = .returned (.int .i64 0) ∧ Turns nobody w w') := by
  refine ⟨?_, ?_, ?_, ?_⟩
  · go_enter Try.func21, Try.ntmps21
    go_wp2
    go_returns
    exact ⟨rfl, (by repeat' (first | exact Turns.refl _ _ | assumption | exact Or.inl rfl | exact Or.inr (Nat.le_refl _) | apply Turns.alloc | apply Turns.drew | apply Turns.drewN | apply Turns.setCell | (apply Or.inr; simp; done) | (apply Or.inr; simp; omega) | exact fun _ hh => False.elim hh | exact fun _ hh => Or.inl hh | (intro i hi; right; (try simp only at hi); omega) | (intro i hi; right; simp at hi; omega) | refine Turns.step ?_ (by assumption) ?_))⟩
  · go_enter Try.func16, Try.ntmps16
    go_wp2
    go_returns
    exact ⟨rfl, (by repeat' (first | exact Turns.refl _ _ | assumption | exact Or.inl rfl | exact Or.inr (Nat.le_refl _) | apply Turns.alloc | apply Turns.drew | apply Turns.drewN | apply Turns.setCell | (apply Or.inr; simp; done) | (apply Or.inr; simp; omega) | exact fun _ hh => False.elim hh | exact fun _ hh => Or.inl hh | (intro i hi; right; (try simp only at hi); omega) | (intro i hi; right; simp at hi; omega) | refine Turns.step ?_ (by assumption) ?_))⟩
  · go_enter Try.func15, Try.ntmps15
    go_wp2
    go_returns
    exact ⟨rfl, (by repeat' (first | exact Turns.refl _ _ | assumption | exact Or.inl rfl | exact Or.inr (Nat.le_refl _) | apply Turns.alloc | apply Turns.drew | apply Turns.drewN | apply Turns.setCell | (apply Or.inr; simp; done) | (apply Or.inr; simp; omega) | exact fun _ hh => False.elim hh | exact fun _ hh => Or.inl hh | (intro i hi; right; (try simp only at hi); omega) | (intro i hi; right; simp at hi; omega) | refine Turns.step ?_ (by assumption) ?_))⟩
  · go_enter Try.func14, Try.ntmps14
    go_wp2
    go_returns
    exact ⟨rfl, (by repeat' (first | exact Turns.refl _ _ | assumption | exact Or.inl rfl | exact Or.inr (Nat.le_refl _) | apply Turns.alloc | apply Turns.drew | apply Turns.drewN | apply Turns.setCell | (apply Or.inr; simp; done) | (apply Or.inr; simp; omega) | exact fun _ hh => False.elim hh | exact fun _ hh => Or.inl hh | (intro i hi; right; (try simp only at hi); omega) | (intro i hi; right; simp at hi; omega) | refine Turns.step ?_ (by assumption) ?_))⟩

set_option maxHeartbeats 1000000 in
theorem queueNobody_walk (cs : Array Value) (w : World) {n : Nat} (hf : Fits Try.prog w n 34 cs.toList) :
    Calls Try.prog 8 #[.agg cs] w fun e w' => e = .returned (.bool true) ∧ Below w.heap.size w w' := by
  obtain ⟨A, cap, f, hcs, hr, hl, hm⟩ := open_raw hf
  obtain rfl := arr_of hcs
  unfold maxLen at hm
  clear hf hcs
  by_cases h0 : f.bs.length = 0
  · have e0 : ((f.bs.length : Int) == 0) = true := by rw [h0]; rfl
    rw [h0]
    go_enter Try.func8, Try.ntmps8
    go_wp2_with fail
    have B0 := Blk.new w #[.slice A 0 cap, .int .u64 f.s, .int .u32 f.n, .int .u32 f.u] 34
    refine (shown_at _).mono ?_
    rintro e w1 ⟨rfl, k1⟩
    try clear cB0 fB0
    replace B0 := B0.turns k1 (by intro hh; first | exact False.elim hh | ((try simp only at hh); omega) | (simp at hh; omega))
    have cB0 := B0.cell; have fB0 := B0.frozen
    go_wp2_with fail
    refine (put_arg _ _ _ _ _ _ _).mono ?_
    rintro e w2 ⟨rfl, k2⟩
    try clear cB0 fB0
    replace B0 := B0.turns k2 (by intro hh; first | exact False.elim hh | ((try simp only at hh); omega) | (simp at hh; omega))
    have cB0 := B0.cell; have fB0 := B0.frozen
    go_wp2_with fail
    refine (take_nil _).mono ?_
    rintro e w3 ⟨rfl, k3⟩
    try clear cB0 fB0
    replace B0 := B0.turns k3 (by intro hh; first | exact False.elim hh | ((try simp only at hh); omega) | (simp at hh; omega))
    have cB0 := B0.cell; have fB0 := B0.frozen
    replace B0 := B0.alloc (.cells #[.slice none 0 0, .int .u64 0, .int .u32 0, .int .u32 0] 34)
    go_wp2_with fail
    refine ((nil_others _).1).mono ?_
    rintro e w4 ⟨rfl, k4⟩
    try clear cB0 fB0
    replace B0 := B0.turns k4 (by intro hh; first | exact False.elim hh | ((try simp only at hh); omega) | (simp at hh; omega))
    have cB0 := B0.cell; have fB0 := B0.frozen
    go_wp2_with fail
    refine ((nil_others _).2.1).mono ?_
    rintro e w5 ⟨rfl, k5⟩
    try clear cB0 fB0
    replace B0 := B0.turns k5 (by intro hh; first | exact False.elim hh | ((try simp only at hh); omega) | (simp at hh; omega))
    have cB0 := B0.cell; have fB0 := B0.frozen
    go_wp2_with fail
    refine ((nil_others _).2.2.1).mono ?_
    rintro e w6 ⟨rfl, k6⟩
    try clear cB0 fB0
    replace B0 := B0.turns k6 (by intro hh; first | exact False.elim hh | ((try simp only at hh); omega) | (simp at hh; omega))
    have cB0 := B0.cell; have fB0 := B0.frozen
    go_wp2_with fail
    refine ((nil_others _).2.2.2).mono ?_
    rintro e w7 ⟨rfl, k7⟩
    try clear cB0 fB0
    replace B0 := B0.turns k7 (by intro hh; first | exact False.elim hh | ((try simp only at hh); omega) | (simp at hh; omega))
    have cB0 := B0.cell; have fB0 := B0.frozen
    go_wp2_with fail
    go_returns
    exact ⟨rfl, Turns.none_below (by repeat' (first | exact Turns.refl _ _ | assumption | exact Or.inl rfl | exact Or.inr (Nat.le_refl _) | apply Turns.alloc | apply Turns.drew | apply Turns.drewN | apply Turns.setCell | (apply Or.inr; simp; done) | (apply Or.inr; simp; omega) | exact fun _ hh => False.elim hh | exact fun _ hh => Or.inl hh | (intro i hi; right; (try simp only at hi); omega) | (intro i hi; right; simp at hi; omega) | refine Turns.step ?_ (by assumption) ?_))⟩
  · have e0 : ((f.bs.length : Int) == 0) = false := beq_eq_false_iff_ne.2 (by omega)
    have h1 : 0 < f.bs.length := by omega
    replace h0 := hide h0
    go_enter Try.func8, Try.ntmps8
    go_wp2_with fail
    have B0 := Blk.new w #[.slice A f.bs.length cap, .int .u64 f.s, .int .u32 f.n, .int .u32 f.u] 34
    refine (shown_at _).mono ?_
    rintro e w1 ⟨rfl, k1⟩
    try clear cB0 fB0
    replace B0 := B0.turns k1 (by intro hh; first | exact False.elim hh | ((try simp only at hh); omega) | (simp at hh; omega))
    have cB0 := B0.cell; have fB0 := B0.frozen
    go_wp2_with fail
    refine (put_nil _ _ _ _ _ _ _ h1).mono ?_
    rintro e w2 ⟨rfl, k2⟩
    try clear cB0 fB0
    replace B0 := B0.turns k2 (by intro hh; first | exact False.elim hh | ((try simp only at hh); omega) | (simp at hh; omega))
    have cB0 := B0.cell; have fB0 := B0.frozen
    go_wp2_with fail
    refine (take_nil _).mono ?_
    rintro e w3 ⟨rfl, k3⟩
    try clear cB0 fB0
    replace B0 := B0.turns k3 (by intro hh; first | exact False.elim hh | ((try simp only at hh); omega) | (simp at hh; omega))
    have cB0 := B0.cell; have fB0 := B0.frozen
    replace B0 := B0.alloc (.cells #[.slice none 0 0, .int .u64 0, .int .u32 0, .int .u32 0] 34)
    go_wp2_with fail
    refine ((nil_others _).1).mono ?_
    rintro e w4 ⟨rfl, k4⟩
    try clear cB0 fB0
    replace B0 := B0.turns k4 (by intro hh; first | exact False.elim hh | ((try simp only at hh); omega) | (simp at hh; omega))
    have cB0 := B0.cell; have fB0 := B0.frozen
    go_wp2_with fail
    refine ((nil_others _).2.1).mono ?_
    rintro e w5 ⟨rfl, k5⟩
    try clear cB0 fB0
    replace B0 := B0.turns k5 (by intro hh; first | exact False.elim hh | ((try simp only at hh); omega) | (simp at hh; omega))
    have cB0 := B0.cell; have fB0 := B0.frozen
    go_wp2_with fail
    refine ((nil_others _).2.2.1).mono ?_
    rintro e w6 ⟨rfl, k6⟩
    try clear cB0 fB0
    replace B0 := B0.turns k6 (by intro hh; first | exact False.elim hh | ((try simp only at hh); omega) | (simp at hh; omega))
    have cB0 := B0.cell; have fB0 := B0.frozen
    go_wp2_with fail
    refine ((nil_others _).2.2.2).mono ?_
    rintro e w7 ⟨rfl, k7⟩
    try clear cB0 fB0
    replace B0 := B0.turns k7 (by intro hh; first | exact False.elim hh | ((try simp only at hh); omega) | (simp at hh; omega))
    have cB0 := B0.cell; have fB0 := B0.frozen
    go_wp2_with fail
    go_returns
    exact ⟨rfl, Turns.none_below (by repeat' (first | exact Turns.refl _ _ | assumption | exact Or.inl rfl | exact Or.inr (Nat.le_refl _) | apply Turns.alloc | apply Turns.drew | apply Turns.drewN | apply Turns.setCell | (apply Or.inr; simp; done) | (apply Or.inr; simp; omega) | exact fun _ hh => False.elim hh | exact fun _ hh => Or.inl hh | (intro i hi; right; (try simp only at hi); omega) | (intro i hi; right; simp at hi; omega) | refine Turns.step ?_ (by assumption) ?_))⟩

end Go.Proofs.Ytklicfagdpjhdaa
