/- What the ring's reference does. -/
import Derived.Test.YtefgcdpceeeeaaaPeeks
set_option linter.unusedVariables false
namespace Go.Proofs.Ytefgcdpceeeeaaa
open Go.RowKit Go.Proofs.YtefgcdpceeeeaaaW.PrintWords

theorem Try.info44 : (Try.prog.info? 44).map (·.size) = some 3 := by kernel_rfl
theorem ret_ref {fn : Func} {p u : Tmp} (h : fn.results = #[.cell p 44, .tmp u]) (tmps : Array Value) (w : World) (g : Nat) (cs : Array Value) (hp : tmps.getD p undef = .pointer (some ⟨g, 0, none⟩)) (hg : Blk w g cs 44) (hs : cs.size = 3) :
    (results fn tmps).run Try.prog w = .ok (.tuple #[.agg cs, tmps.getD u undef]) w := ret_row_tmp h tmps w g 44 cs _ hp hg Try.underlying44 rfl (by rw [Try.info44, hs])
theorem ret_ref2 {fn : Func} {p u v : Tmp} (h : fn.results = #[.cell p 44, .tmp u, .tmp v]) (tmps : Array Value) (w : World) (g : Nat) (cs : Array Value) (hp : tmps.getD p undef = .pointer (some ⟨g, 0, none⟩)) (hg : Blk w g cs 44) (hs : cs.size = 3) :
    (results fn tmps).run Try.prog w = .ok (.tuple #[.agg cs, tmps.getD u undef, tmps.getD v undef]) w := by
  have hl := run_loadVar_row (P := Try.prog) w g 44 44 cs (0, 0) _ hg Try.underlying44 rfl (by rw [Try.info44, hs])
  have hp' : tmps[p]?.getD undef = .pointer (some ⟨g, 0, none⟩) := by simpa using hp
  simp [results, h, asAddr, hp', hl]

set_option maxHeartbeats 400000 in
theorem rnew_ok (n : Int) (w : World) (h0 : 2 ≤ n) (h1 : n ≤ 64) : Calls Try.prog 17 #[.int .i64 n] w fun e w' => e = .returned (.tuple #[.agg #[.int .i64 n, .int .i64 0, .int .i64 0], .int .i64 0]) ∧ Turns nobody w w' := by
  go_enter Try.func17, Try.ntmps17
  go_wp2
  refine bodyPost_ret (ret_ref rfl _ _ w.heap.size #[.int .i64 n, .int .i64 0, .int .i64 0] rfl (Blk.new w _ 44) rfl) rfl ?_
  exact ⟨rfl, (by repeat' (first | exact Turns.refl _ _ | assumption | exact Or.inl rfl | exact Or.inr (Nat.le_refl _) | apply Turns.alloc | apply Turns.drew | apply Turns.drewN | apply Turns.setCell | (apply Or.inr; simp; done) | (apply Or.inr; simp; omega) | exact fun _ hh => False.elim hh | exact fun _ hh => Or.inl hh | (intro i hi; right; (try simp only at hi); omega) | (intro i hi; right; simp at hi; omega) | refine Turns.step ?_ (by assumption) ?_))⟩
set_option maxHeartbeats 400000 in
theorem rnew_bad (n : Int) (w : World) (h : n < 2 ∨ 64 < n) : Calls Try.prog 17 #[.int .i64 n] w fun e w' => e = .returned (.tuple #[.agg #[.int .i64 0, .int .i64 0, .int .i64 0], .int .i64 1]) ∧ Turns nobody w w' := by
  rcases h with h | h
  · go_enter Try.func17, Try.ntmps17
    go_wp2
    refine bodyPost_ret (ret_ref rfl _ _ w.heap.size #[.int .i64 0, .int .i64 0, .int .i64 0] rfl (Blk.new w _ 44) rfl) rfl ?_
    exact ⟨rfl, (by repeat' (first | exact Turns.refl _ _ | assumption | exact Or.inl rfl | exact Or.inr (Nat.le_refl _) | apply Turns.alloc | apply Turns.drew | apply Turns.drewN | apply Turns.setCell | (apply Or.inr; simp; done) | (apply Or.inr; simp; omega) | exact fun _ hh => False.elim hh | exact fun _ hh => Or.inl hh | (intro i hi; right; (try simp only at hi); omega) | (intro i hi; right; simp at hi; omega) | refine Turns.step ?_ (by assumption) ?_))⟩
  · go_enter Try.func17, Try.ntmps17
    go_wp2
    refine bodyPost_ret (ret_ref rfl _ _ w.heap.size #[.int .i64 0, .int .i64 0, .int .i64 0] rfl (Blk.new w _ 44) rfl) rfl ?_
    exact ⟨rfl, (by repeat' (first | exact Turns.refl _ _ | assumption | exact Or.inl rfl | exact Or.inr (Nat.le_refl _) | apply Turns.alloc | apply Turns.drew | apply Turns.drewN | apply Turns.setCell | (apply Or.inr; simp; done) | (apply Or.inr; simp; omega) | exact fun _ hh => False.elim hh | exact fun _ hh => Or.inl hh | (intro i hi; right; (try simp only at hi); omega) | (intro i hi; right; simp at hi; omega) | refine Turns.step ?_ (by assumption) ?_))⟩

/-- The reference's numbers: places, put, taken. -/
structure RN (s i o : Int) : Prop where
  s0 : 2 ≤ s ∧ s ≤ 64
  o0 : 0 ≤ o ∧ o ≤ i
  i0 : i ≤ 1000000
  u0 : i - o ≤ s

set_option maxHeartbeats 400000 in
theorem rused (s i o : Int) (w : World) (h : RN s i o) : Calls Try.prog 24 #[.agg #[.int .i64 s, .int .i64 i, .int .i64 o]] w fun e w' => e = .returned (.int .i64 (i - o)) ∧ Turns nobody w w' := by
  obtain ⟨h1, ⟨h2, h3⟩, h4, h5⟩ := h
  go_enter Try.func24, Try.ntmps24
  go_wp2
  go_returns
  exact ⟨rfl, (by repeat' (first | exact Turns.refl _ _ | assumption | exact Or.inl rfl | exact Or.inr (Nat.le_refl _) | apply Turns.alloc | apply Turns.drew | apply Turns.drewN | apply Turns.setCell | (apply Or.inr; simp; done) | (apply Or.inr; simp; omega) | exact fun _ hh => False.elim hh | exact fun _ hh => Or.inl hh | (intro i hi; right; (try simp only at hi); omega) | (intro i hi; right; simp at hi; omega) | refine Turns.step ?_ (by assumption) ?_))⟩
set_option maxHeartbeats 400000 in
theorem rnext (s i o n : Int) (w : World) (h : RN s i o) (hn : n ≤ 9223372036854775807) : Calls Try.prog 23 #[.agg #[.int .i64 s, .int .i64 i, .int .i64 o], .int .i64 n] w fun e w' => e = .returned (.int .i64 (nextOf s n)) ∧ Turns nobody w w' := by
  obtain ⟨⟨h0, h1⟩, h2, h4, h5⟩ := h
  by_cases a : n < 0
  · rw [show nextOf s n = 0 from by unfold nextOf; rw [if_pos (.inl a)]]
    go_enter Try.func23, Try.ntmps23
    go_wp2
    go_returns
    exact ⟨rfl, (by repeat' (first | exact Turns.refl _ _ | assumption | exact Or.inl rfl | exact Or.inr (Nat.le_refl _) | apply Turns.alloc | apply Turns.drew | apply Turns.drewN | apply Turns.setCell | (apply Or.inr; simp; done) | (apply Or.inr; simp; omega) | exact fun _ hh => False.elim hh | exact fun _ hh => Or.inl hh | (intro i hi; right; (try simp only at hi); omega) | (intro i hi; right; simp at hi; omega) | refine Turns.step ?_ (by assumption) ?_))⟩
  · by_cases b : s - 1 ≤ n
    · rw [show nextOf s n = 0 from by unfold nextOf; rw [if_pos (.inr b)]]
      go_enter Try.func23, Try.ntmps23
      go_wp2
      go_returns
      exact ⟨rfl, (by repeat' (first | exact Turns.refl _ _ | assumption | exact Or.inl rfl | exact Or.inr (Nat.le_refl _) | apply Turns.alloc | apply Turns.drew | apply Turns.drewN | apply Turns.setCell | (apply Or.inr; simp; done) | (apply Or.inr; simp; omega) | exact fun _ hh => False.elim hh | exact fun _ hh => Or.inl hh | (intro i hi; right; (try simp only at hi); omega) | (intro i hi; right; simp at hi; omega) | refine Turns.step ?_ (by assumption) ?_))⟩
    · rw [show nextOf s n = n + 1 from by unfold nextOf; rw [if_neg (by omega)]]
      go_enter Try.func23, Try.ntmps23
      go_wp2
      go_returns
      exact ⟨rfl, (by repeat' (first | exact Turns.refl _ _ | assumption | exact Or.inl rfl | exact Or.inr (Nat.le_refl _) | apply Turns.alloc | apply Turns.drew | apply Turns.drewN | apply Turns.setCell | (apply Or.inr; simp; done) | (apply Or.inr; simp; omega) | exact fun _ hh => False.elim hh | exact fun _ hh => Or.inl hh | (intro i hi; right; (try simp only at hi); omega) | (intro i hi; right; simp at hi; omega) | refine Turns.step ?_ (by assumption) ?_))⟩
set_option maxHeartbeats 400000 in
theorem rpeek_ok (s i o n : Int) (w : World) (h : RN s i o) (h0 : 0 ≤ n) (h1 : n < i - o) : Calls Try.prog 22 #[.agg #[.int .i64 s, .int .i64 i, .int .i64 o], .int .i64 n] w fun e w' => e = .returned (.tuple #[.int .i64 ((o + n) % s), .int .i64 0]) ∧ Turns nobody w w' := by
  have B0 := Blk.new w #[.int .i64 s, .int .i64 i, .int .i64 o] 44
  have g := h
  obtain ⟨⟨a0, a1⟩, ⟨a2, a3⟩, a4, a5⟩ := g
  have a6 : ¬ s = 0 := by omega
  have a7 : Int.tmod (o + n) s = (o + n) % s := Int.tmod_eq_emod_of_nonneg (by omega)
  go_enter Try.func22, Try.ntmps22
  go_wp2_with fail
  refine (rused s i o _ h).mono ?_
  rintro e w1 ⟨rfl, k1⟩
  try clear cB0 fB0
  replace B0 := B0.turns k1 (by intro hh; first | exact False.elim hh | ((try simp only at hh); omega) | (simp at hh; omega))
  have cB0 := B0.cell; have fB0 := B0.frozen
  go_wp2_with fail
  go_returns
  exact ⟨rfl, (by repeat' (first | exact Turns.refl _ _ | assumption | exact Or.inl rfl | exact Or.inr (Nat.le_refl _) | apply Turns.alloc | apply Turns.drew | apply Turns.drewN | apply Turns.setCell | (apply Or.inr; simp; done) | (apply Or.inr; simp; omega) | exact fun _ hh => False.elim hh | exact fun _ hh => Or.inl hh | (intro i hi; right; (try simp only at hi); omega) | (intro i hi; right; simp at hi; omega) | refine Turns.step ?_ (by assumption) ?_))⟩
set_option maxHeartbeats 400000 in
theorem rpeek_none (s i o n : Int) (w : World) (h : RN s i o) (h1 : n < 0 ∨ i - o ≤ n) : Calls Try.prog 22 #[.agg #[.int .i64 s, .int .i64 i, .int .i64 o], .int .i64 n] w fun e w' => e = .returned (.tuple #[.int .i64 0, .int .i64 6]) ∧ Turns nobody w w' := by
  by_cases a : n < 0
  · go_enter Try.func22, Try.ntmps22
    go_wp2
    go_returns
    exact ⟨rfl, (by repeat' (first | exact Turns.refl _ _ | assumption | exact Or.inl rfl | exact Or.inr (Nat.le_refl _) | apply Turns.alloc | apply Turns.drew | apply Turns.drewN | apply Turns.setCell | (apply Or.inr; simp; done) | (apply Or.inr; simp; omega) | exact fun _ hh => False.elim hh | exact fun _ hh => Or.inl hh | (intro i hi; right; (try simp only at hi); omega) | (intro i hi; right; simp at hi; omega) | refine Turns.step ?_ (by assumption) ?_))⟩
  · have b : i - o ≤ n := by omega
    clear h1
    go_enter Try.func22, Try.ntmps22
    go_wp2_with fail
    refine (rused s i o _ h).mono ?_
    rintro e w1 ⟨rfl, k1⟩
    go_wp2_with fail
    go_returns
    exact ⟨rfl, (by repeat' (first | exact Turns.refl _ _ | assumption | exact Or.inl rfl | exact Or.inr (Nat.le_refl _) | apply Turns.alloc | apply Turns.drew | apply Turns.drewN | apply Turns.setCell | (apply Or.inr; simp; done) | (apply Or.inr; simp; omega) | exact fun _ hh => False.elim hh | exact fun _ hh => Or.inl hh | (intro i hi; right; (try simp only at hi); omega) | (intro i hi; right; simp at hi; omega) | refine Turns.step ?_ (by assumption) ?_))⟩
set_option maxHeartbeats 1000000 in
theorem rtake_ok (s i o : Int) (w : World) (h : RN s i o) (h1 : 0 < i - o) : Calls Try.prog 20 #[.agg #[.int .i64 s, .int .i64 i, .int .i64 o]] w fun e w' => e = .returned (.tuple #[.agg #[.int .i64 s, .int .i64 i, .int .i64 (o + 1)], .int .i64 (o % s), .int .i64 0]) ∧ Turns nobody w w' := by
  obtain ⟨B0, B1⟩ := boxes2 w #[.int .i64 s, .int .i64 i, .int .i64 o] #[.int .i64 0, .int .i64 0, .int .i64 0] 44 44
  have k0 : Turns nobody w ((w.alloc (.cells #[.int .i64 s, .int .i64 i, .int .i64 o] 44)).alloc (.cells #[.int .i64 0, .int .i64 0, .int .i64 0] 44)) := (by repeat' (first | exact Turns.refl _ _ | assumption | exact Or.inl rfl | exact Or.inr (Nat.le_refl _) | apply Turns.alloc | apply Turns.drew | apply Turns.drewN | apply Turns.setCell | (apply Or.inr; simp; done) | (apply Or.inr; simp; omega) | exact fun _ hh => False.elim hh | exact fun _ hh => Or.inl hh | (intro i hi; right; (try simp only at hi); omega) | (intro i hi; right; simp at hi; omega) | refine Turns.step ?_ (by assumption) ?_))
  have g := h
  obtain ⟨⟨a0, a1⟩, ⟨a2, a3⟩, a4, a5⟩ := g
  go_enter Try.func20, Try.ntmps20
  go_wp2_with fail
  refine (rpeek_ok s i o 0 _ h (by decide) h1).mono ?_
  rintro e w1 ⟨rfl, k1⟩
  try clear cB0 fB0
  replace B0 := B0.turns k1 (by intro hh; first | exact False.elim hh | ((try simp only at hh); omega) | (simp at hh; omega))
  have cB0 := B0.cell; have fB0 := B0.frozen
  replace B1 := B1.turns k1 (by intro hh; first | exact False.elim hh | ((try simp only at hh); omega) | (simp at hh; omega))
  have cB1 := B1.cell
  have fB1 := B1.frozen
  have lB0 := B0.lt
  have lB1 := B1.lt
  go_wp2_with fail
  have C1 : Blk ((((w1.setCell ⟨w.heap.size, 2, none⟩ (.int .i64 (o + 1))).setCell ⟨w.heap.size + 1, 0, none⟩ (.int .i64 s)).setCell ⟨w.heap.size + 1, 1, none⟩ (.int .i64 i)).setCell ⟨w.heap.size + 1, 2, none⟩ (.int .i64 (o + 1))) (w.heap.size + 1) #[.int .i64 s, .int .i64 i, .int .i64 (o + 1)] 44 := by
    simpa using (((B1.other (p := ⟨w.heap.size, 2, none⟩) (by simp) (.int .i64 (o + 1))).set 0 (.int .i64 s)).set 1 (.int .i64 i)).set 2 (.int .i64 (o + 1))
  refine bodyPost_ret (ret_ref2 rfl _ _ (w.heap.size + 1) _ rfl C1 rfl) rfl ?_
  have K := k0.trans k1
  exact ⟨rfl, (by repeat' (first | exact Turns.refl _ _ | assumption | exact Or.inl rfl | exact Or.inr (Nat.le_refl _) | apply Turns.alloc | apply Turns.drew | apply Turns.drewN | apply Turns.setCell | (apply Or.inr; simp; done) | (apply Or.inr; simp; omega) | exact fun _ hh => False.elim hh | exact fun _ hh => Or.inl hh | (intro i hi; right; (try simp only at hi); omega) | (intro i hi; right; simp at hi; omega) | refine Turns.step ?_ (by assumption) ?_))⟩
set_option maxHeartbeats 1000000 in
theorem rtake_none (s i o : Int) (w : World) (h : RN s i o) (h1 : i - o ≤ 0) : Calls Try.prog 20 #[.agg #[.int .i64 s, .int .i64 i, .int .i64 o]] w fun e w' => e = .returned (.tuple #[.agg #[.int .i64 s, .int .i64 i, .int .i64 o], .int .i64 0, .int .i64 6]) ∧ Turns nobody w w' := by
  obtain ⟨B0, B1⟩ := boxes2 w #[.int .i64 s, .int .i64 i, .int .i64 o] #[.int .i64 0, .int .i64 0, .int .i64 0] 44 44
  have k0 : Turns nobody w ((w.alloc (.cells #[.int .i64 s, .int .i64 i, .int .i64 o] 44)).alloc (.cells #[.int .i64 0, .int .i64 0, .int .i64 0] 44)) := (by repeat' (first | exact Turns.refl _ _ | assumption | exact Or.inl rfl | exact Or.inr (Nat.le_refl _) | apply Turns.alloc | apply Turns.drew | apply Turns.drewN | apply Turns.setCell | (apply Or.inr; simp; done) | (apply Or.inr; simp; omega) | exact fun _ hh => False.elim hh | exact fun _ hh => Or.inl hh | (intro i hi; right; (try simp only at hi); omega) | (intro i hi; right; simp at hi; omega) | refine Turns.step ?_ (by assumption) ?_))
  go_enter Try.func20, Try.ntmps20
  go_wp2_with fail
  refine (rpeek_none s i o 0 _ h (.inr h1)).mono ?_
  rintro e w1 ⟨rfl, k1⟩
  try clear cB0 fB0
  replace B0 := B0.turns k1 (by intro hh; first | exact False.elim hh | ((try simp only at hh); omega) | (simp at hh; omega))
  have cB0 := B0.cell; have fB0 := B0.frozen
  replace B1 := B1.turns k1 (by intro hh; first | exact False.elim hh | ((try simp only at hh); omega) | (simp at hh; omega))
  have cB1 := B1.cell
  have fB1 := B1.frozen
  have lB0 := B0.lt
  have lB1 := B1.lt
  go_wp2_with fail
  have C1 : Blk (((w1.setCell ⟨w.heap.size + 1, 0, none⟩ (.int .i64 s)).setCell ⟨w.heap.size + 1, 1, none⟩ (.int .i64 i)).setCell ⟨w.heap.size + 1, 2, none⟩ (.int .i64 o)) (w.heap.size + 1) #[.int .i64 s, .int .i64 i, .int .i64 o] 44 := by
    simpa using ((B1.set 0 (.int .i64 s)).set 1 (.int .i64 i)).set 2 (.int .i64 o)
  refine bodyPost_ret (ret_ref2 rfl _ _ (w.heap.size + 1) _ rfl C1 rfl) rfl ?_
  have K := k0.trans k1
  exact ⟨rfl, (by repeat' (first | exact Turns.refl _ _ | assumption | exact Or.inl rfl | exact Or.inr (Nat.le_refl _) | apply Turns.alloc | apply Turns.drew | apply Turns.drewN | apply Turns.setCell | (apply Or.inr; simp; done) | (apply Or.inr; simp; omega) | exact fun _ hh => False.elim hh | exact fun _ hh => Or.inl hh | (intro i hi; right; (try simp only at hi); omega) | (intro i hi; right; simp at hi; omega) | refine Turns.step ?_ (by assumption) ?_))⟩

set_option maxHeartbeats 1000000 in
theorem rput_arg (s i o n : Int) (w : World) (hn : n < 1) : Calls Try.prog 18 #[.agg #[.int .i64 s, .int .i64 i, .int .i64 o], .int .i64 n] w fun e w' => e = .returned (.tuple #[.agg #[.int .i64 s, .int .i64 i, .int .i64 o], .slice none 0 0, .int .i64 1]) ∧ Turns nobody w w' := by
  obtain ⟨B0, B1⟩ := boxes2 w #[.int .i64 s, .int .i64 i, .int .i64 o] #[.int .i64 0, .int .i64 0, .int .i64 0] 44 44
  have k0 : Turns nobody w ((w.alloc (.cells #[.int .i64 s, .int .i64 i, .int .i64 o] 44)).alloc (.cells #[.int .i64 0, .int .i64 0, .int .i64 0] 44)) := (by repeat' (first | exact Turns.refl _ _ | assumption | exact Or.inl rfl | exact Or.inr (Nat.le_refl _) | apply Turns.alloc | apply Turns.drew | apply Turns.drewN | apply Turns.setCell | (apply Or.inr; simp; done) | (apply Or.inr; simp; omega) | exact fun _ hh => False.elim hh | exact fun _ hh => Or.inl hh | (intro i hi; right; (try simp only at hi); omega) | (intro i hi; right; simp at hi; omega) | refine Turns.step ?_ (by assumption) ?_))
  go_enter Try.func18, Try.ntmps18
  go_wp2_with fail
  refine bodyPost_ret (ret_ref2 rfl _ _ (w.heap.size + 1) #[.int .i64 s, .int .i64 i, .int .i64 o] rfl (by simpa using Blk.new (w.alloc (.cells #[.int .i64 s, .int .i64 i, .int .i64 o] 44)) #[.int .i64 s, .int .i64 i, .int .i64 o] 44) rfl) rfl ?_
  exact ⟨rfl, (by repeat' (first | exact Turns.refl _ _ | assumption | exact Or.inl rfl | exact Or.inr (Nat.le_refl _) | apply Turns.alloc | apply Turns.drew | apply Turns.drewN | apply Turns.setCell | (apply Or.inr; simp; done) | (apply Or.inr; simp; omega) | exact fun _ hh => False.elim hh | exact fun _ hh => Or.inl hh | (intro i hi; right; (try simp only at hi); omega) | (intro i hi; right; simp at hi; omega) | refine Turns.step ?_ (by assumption) ?_))⟩
set_option maxHeartbeats 1000000 in
theorem rput_full (s i o n : Int) (w : World) (h : RN s i o) (hn : 1 ≤ n) (hf : s - (i - o) < n) (hm : n ≤ 9223372036854775807) : Calls Try.prog 18 #[.agg #[.int .i64 s, .int .i64 i, .int .i64 o], .int .i64 n] w fun e w' => e = .returned (.tuple #[.agg #[.int .i64 s, .int .i64 i, .int .i64 o], .slice none 0 0, .int .i64 3]) ∧ Turns nobody w w' := by
  obtain ⟨B0, B1⟩ := boxes2 w #[.int .i64 s, .int .i64 i, .int .i64 o] #[.int .i64 0, .int .i64 0, .int .i64 0] 44 44
  have k0 : Turns nobody w ((w.alloc (.cells #[.int .i64 s, .int .i64 i, .int .i64 o] 44)).alloc (.cells #[.int .i64 0, .int .i64 0, .int .i64 0] 44)) := (by repeat' (first | exact Turns.refl _ _ | assumption | exact Or.inl rfl | exact Or.inr (Nat.le_refl _) | apply Turns.alloc | apply Turns.drew | apply Turns.drewN | apply Turns.setCell | (apply Or.inr; simp; done) | (apply Or.inr; simp; omega) | exact fun _ hh => False.elim hh | exact fun _ hh => Or.inl hh | (intro i hi; right; (try simp only at hi); omega) | (intro i hi; right; simp at hi; omega) | refine Turns.step ?_ (by assumption) ?_))
  have g := h
  obtain ⟨⟨a0, a1⟩, ⟨a2, a3⟩, a4, a5⟩ := g
  have b1 : ¬ (n < 1) := by omega
  by_cases c : 64 < n
  · have d1 : decide (64 < n) = true := by simpa using c
    obtain ⟨W1, hW⟩ : ∃ W1, W1 = ((w.alloc (.cells #[.int .i64 s, .int .i64 i, .int .i64 o] 44)).alloc (.cells #[.int .i64 0, .int .i64 0, .int .i64 0] 44)) := ⟨_, rfl⟩
    rw [← hW] at B0 B1 k0
    replace hW := hide hW
    go_enter Try.func18, Try.ntmps18
    go_wp2_with fail
    rw [← hW.out]
    have cB0 := B0.cell; have fB0 := B0.frozen
    have qB0 := fun (p : Later W1) => (B0.turns p.h (by intro hh; first | exact False.elim hh | ((try simp only at hh); omega) | (simp at hh; omega))).cell
    have qB1 := fun (p : Later W1) => (B1.turns p.h (by intro hh; first | exact False.elim hh | ((try simp only at hh); omega) | (simp at hh; omega))).cell
    refine wp_region_later (by kernel_rfl) (by kernel_rfl) ?_
    repeat (go_big_quiet_step (((go_at_call 24; exact Later.calls (rused s i o _ h)))))
    refine wpQuiet_nil ?_
    rintro wq ⟨⟨wq0, kq⟩, eqq⟩
    obtain rfl : wq = wq0 := eqq
    clear qB0
    try clear cB0 fB0
    replace B0 := B0.turns kq (by intro hh; first | exact False.elim hh | ((try simp only at hh); omega) | (simp at hh; omega))
    have cB0 := B0.cell; have fB0 := B0.frozen
    clear qB1
    try clear cB1 fB1
    replace B1 := B1.turns kq (by intro hh; first | exact False.elim hh | ((try simp only at hh); omega) | (simp at hh; omega))
    have cB1 := B1.cell; have fB1 := B1.frozen
    have lB0 := B0.lt
    have lB1 := B1.lt
    go_wp2_with fail
    have C1 : Blk (((wq.setCell ⟨w.heap.size + 1, 0, none⟩ (.int .i64 s)).setCell ⟨w.heap.size + 1, 1, none⟩ (.int .i64 i)).setCell ⟨w.heap.size + 1, 2, none⟩ (.int .i64 o)) (w.heap.size + 1) #[.int .i64 s, .int .i64 i, .int .i64 o] 44 := by
      simpa using ((B1.set 0 (.int .i64 s)).set 1 (.int .i64 i)).set 2 (.int .i64 o)
    refine bodyPost_ret (ret_ref2 rfl _ _ (w.heap.size + 1) _ rfl C1 rfl) rfl ?_
    have K := k0.trans kq
    exact ⟨rfl, (by repeat' (first | exact Turns.refl _ _ | assumption | exact Or.inl rfl | exact Or.inr (Nat.le_refl _) | apply Turns.alloc | apply Turns.drew | apply Turns.drewN | apply Turns.setCell | (apply Or.inr; simp; done) | (apply Or.inr; simp; omega) | exact fun _ hh => False.elim hh | exact fun _ hh => Or.inl hh | (intro i hi; right; (try simp only at hi); omega) | (intro i hi; right; simp at hi; omega) | refine Turns.step ?_ (by assumption) ?_))⟩
  · have d1 : decide (64 < n) = false := by simpa using c
    have d2 : IntKind.i64.wrap (i - o + n) = i - o + n := IntWalk.i64_in _ ⟨by omega, by omega⟩
    have d3 : decide (s < i - o + n) = true := by simp; omega
    have d4 : s < i - o + n := by omega
    obtain ⟨W1, hW⟩ : ∃ W1, W1 = ((w.alloc (.cells #[.int .i64 s, .int .i64 i, .int .i64 o] 44)).alloc (.cells #[.int .i64 0, .int .i64 0, .int .i64 0] 44)) := ⟨_, rfl⟩
    rw [← hW] at B0 B1 k0
    replace hW := hide hW
    go_enter Try.func18, Try.ntmps18
    go_wp2_with fail
    rw [← hW.out]
    have cB0 := B0.cell; have fB0 := B0.frozen
    have qB0 := fun (p : Later W1) => (B0.turns p.h (by intro hh; first | exact False.elim hh | ((try simp only at hh); omega) | (simp at hh; omega))).cell
    have qB1 := fun (p : Later W1) => (B1.turns p.h (by intro hh; first | exact False.elim hh | ((try simp only at hh); omega) | (simp at hh; omega))).cell
    refine wp_region_later (by kernel_rfl) (by kernel_rfl) ?_
    repeat (go_big_quiet_step (((go_at_call 24; exact Later.calls (rused s i o _ h)))))
    refine wpQuiet_nil ?_
    rintro wq ⟨⟨wq0, kq⟩, eqq⟩
    obtain rfl : wq = wq0 := eqq
    clear qB0
    try clear cB0 fB0
    replace B0 := B0.turns kq (by intro hh; first | exact False.elim hh | ((try simp only at hh); omega) | (simp at hh; omega))
    have cB0 := B0.cell; have fB0 := B0.frozen
    clear qB1
    try clear cB1 fB1
    replace B1 := B1.turns kq (by intro hh; first | exact False.elim hh | ((try simp only at hh); omega) | (simp at hh; omega))
    have cB1 := B1.cell; have fB1 := B1.frozen
    have lB0 := B0.lt
    have lB1 := B1.lt
    go_wp2_with fail
    have C1 : Blk (((wq.setCell ⟨w.heap.size + 1, 0, none⟩ (.int .i64 s)).setCell ⟨w.heap.size + 1, 1, none⟩ (.int .i64 i)).setCell ⟨w.heap.size + 1, 2, none⟩ (.int .i64 o)) (w.heap.size + 1) #[.int .i64 s, .int .i64 i, .int .i64 o] 44 := by
      simpa using ((B1.set 0 (.int .i64 s)).set 1 (.int .i64 i)).set 2 (.int .i64 o)
    refine bodyPost_ret (ret_ref2 rfl _ _ (w.heap.size + 1) _ rfl C1 rfl) rfl ?_
    have K := k0.trans kq
    exact ⟨rfl, (by repeat' (first | exact Turns.refl _ _ | assumption | exact Or.inl rfl | exact Or.inr (Nat.le_refl _) | apply Turns.alloc | apply Turns.drew | apply Turns.drewN | apply Turns.setCell | (apply Or.inr; simp; done) | (apply Or.inr; simp; omega) | exact fun _ hh => False.elim hh | exact fun _ hh => Or.inl hh | (intro i hi; right; (try simp only at hi); omega) | (intro i hi; right; simp at hi; omega) | refine Turns.step ?_ (by assumption) ?_))⟩

theorem placeOf_ref (s i o : Int) (k : Nat) : placeOf s (o % s) (i - o) k = (i + k) % s := by
  unfold placeOf
  rw [show o % s + (i - o) + (k : Int) = o % s + (i - o + k) by omega, Int.emod_add_emod]
  congr 1
  omega

set_option maxHeartbeats 2000000 in
set_option maxRecDepth 100000 in
theorem rput_ok (s i o : Int) (n : Nat) (w : World) (h : RN s i o) (hn : 1 ≤ n) (hf : i - o + n ≤ s) : Calls Try.prog 18 #[.agg #[.int .i64 s, .int .i64 i, .int .i64 o], .int .i64 n] w fun e w' => ∃ A c, e = .returned (.tuple #[.agg #[.int .i64 s, .int .i64 (i + n), .int .i64 o], .slice A n c, .int .i64 0]) ∧ IntsAt w' A (upto s (o % s) (i - o) n) ∧ (∀ a, A = some a → w.heap.size ≤ a.block) ∧ Turns nobody w w' := by
  obtain ⟨i0, hi, hz0, hz1, hz2⟩ := info_parts Try.info3
  obtain ⟨B0, B1⟩ := boxes2 w #[.int .i64 s, .int .i64 i, .int .i64 o] #[.int .i64 0, .int .i64 0, .int .i64 0] 44 44
  have k0 : Turns nobody w ((w.alloc (.cells #[.int .i64 s, .int .i64 i, .int .i64 o] 44)).alloc (.cells #[.int .i64 0, .int .i64 0, .int .i64 0] 44)) := (by repeat' (first | exact Turns.refl _ _ | assumption | exact Or.inl rfl | exact Or.inr (Nat.le_refl _) | apply Turns.alloc | apply Turns.drew | apply Turns.drewN | apply Turns.setCell | (apply Or.inr; simp; done) | (apply Or.inr; simp; omega) | exact fun _ hh => False.elim hh | exact fun _ hh => Or.inl hh | (intro i hi; right; (try simp only at hi); omega) | (intro i hi; right; simp at hi; omega) | refine Turns.step ?_ (by assumption) ?_))
  have g := h
  obtain ⟨⟨a0, a1⟩, ⟨a2, a3⟩, a4, a5⟩ := g
  have b1 : ¬ ((n : Int) < 1) := by omega
  have b2 : (n : Int) ≤ 64 := by omega
  have d1 : decide (64 < (n : Int)) = false := by simp; omega
  have d2 : IntKind.i64.wrap (i - o + n) = i - o + n := IntWalk.i64_in _ ⟨by omega, by omega⟩
  have d3 : decide (s < i - o + n) = false := by simp; omega
  have d4 : ¬ (s < i - o + n) := by omega
  obtain ⟨W1, hW⟩ : ∃ W1, W1 = ((w.alloc (.cells #[.int .i64 s, .int .i64 i, .int .i64 o] 44)).alloc (.cells #[.int .i64 0, .int .i64 0, .int .i64 0] 44)) := ⟨_, rfl⟩
  have nW : W1.heap.size = w.heap.size + 1 + 1 := by rw [hW]; simp
  rw [← hW] at B0 B1 k0
  replace hW := hide hW
  go_enter Try.func18, Try.ntmps18
  go_wp2_with fail
  rw [← hW.out]
  have cB0 := B0.cell; have fB0 := B0.frozen
  have nW0 : w.heap.size + 2 ≤ W1.heap.size := by omega
  clear nW
  have qB0 := fun (p : Later W1) => (B0.turns p.h (by intro hh; first | exact False.elim hh | ((try simp only at hh); omega) | (simp at hh; omega))).cell
  have qB1 := fun (p : Later W1) => (B1.turns p.h (by intro hh; first | exact False.elim hh | ((try simp only at hh); omega) | (simp at hh; omega))).cell
  refine wp_region_later (by kernel_rfl) (by kernel_rfl) ?_
  repeat (go_big_quiet_step (((go_at_call 24; exact Later.calls (rused s i o _ h)))))
  refine wpQuiet_nil ?_
  rintro wq ⟨⟨wq0, kq⟩, eqq⟩
  obtain rfl : wq = wq0 := eqq
  clear qB0
  try clear cB0 fB0
  replace B0 := B0.turns kq (by intro hh; first | exact False.elim hh | ((try simp only at hh); omega) | (simp at hh; omega))
  have cB0 := B0.cell; have fB0 := B0.frozen
  clear qB1
  try clear cB1 fB1
  replace B1 := B1.turns kq (by intro hh; first | exact False.elim hh | ((try simp only at hh); omega) | (simp at hh; omega))
  have cB1 := B1.cell; have fB1 := B1.frozen
  have K := k0.trans kq
  have nq := kq.size
  have q0 : QRow wq W1.heap.size 3 1 (.slice none 0 0) 0 ((upto s (o % s) (i - o) 0).map (Value.int .i64)) := q_of_own (World.ownsRow_nil _ _ _ _)
  have B0 : Blk wq w.heap.size #[.int .i64 s, .int .i64 (i + (0 : Nat)), .int .i64 o] 44 := by simpa using B0
  clear cB0 fB0 cB1 fB1 d1 d2 d3 d4
  go_wp2_with fail
  go_loopw [7, 8] (fun l x wr => ∃ k : Nat, k ≤ n ∧ x = .int .i64 k ∧ QRow wr W1.heap.size 3 1 l k ((upto s (o % s) (i - o) k).map (Value.int .i64)) ∧ Blk wr w.heap.size #[.int .i64 s, .int .i64 (i + k), .int .i64 o] 44 ∧ Blk wr (w.heap.size + 1) #[.int .i64 0, .int .i64 0, .int .i64 0] 44 ∧ Turns nobody w wr ∧ W1.heap.size ≤ wr.heap.size) (fun _ x _ => n - (intOf x).toNat)
  case atStart => exact ⟨0, Nat.zero_le _, rfl, q0, B0, B1, K, nq⟩
  case round =>
    clear q0 B0 B1 K kq nq
    obtain ⟨k, hk, rfl, Q, B0, B1, K, nq⟩ := hrel
    by_cases hlt : k < n
    · have cB0 := B0.cell; have fB0 := B0.frozen
      have lB0 := B0.lt
      have tm : Int.tmod (i + (k : Int)) s = (i + (k : Int)) % s := Int.tmod_eq_emod_of_nonneg (by omega)
      have hs0 : ¬ s = 0 := by omega
      have hQ := hide Q
      obtain ⟨A', c', rfl, hnc⟩ := q_slice Q
      clear Q
      have nQ : ∀ g, (Value.slice A' k c').ownBlock = some g → W1.heap.size ≤ g := fun g hg => (q_typed hQ.out g hg).1
      replace nQ := hide nQ
      go_wp2_with (
        (at_builtin
         refine wpList_q_append rfl (.tmp 29) (.tmp 35) 28 rfl W1.heap.size 3 i0 (.int .i64 0) 1 8 Try.underlying28 hi hz0 hz1 hz2 rfl (by decide) (.slice A' k c') k ((upto s (o % s) (i - o) k).map (Value.int .i64)) rfl (qrow_turns hQ.out ((Turns.refl nobody wr).alloc _) (fun _ _ hh => hh.elim)) ⟨wr.heap.size, 0, none⟩ 1 1 [.int .i64 ((i + k) % s)] rfl rfl (fun j' u' hj' => World.news_of_block (w := _) (fr := (0, 0)) (Blk.new wr #[.int .i64 ((i + k) % s)] 3) j' u' (by simpa using hj')) (by intro u' hu'; simp at hu'; subst hu'; rfl) (by decide) (by unfold maxLen; omega) (by omega) (by simp; omega) ?_
         intro g' off cap1 w7 hq7 hg7 hat
         have T7 : Turns (fun j => (Value.slice A' k c').ownBlock = some j) wr w7 := Turns.step ((Turns.refl _ wr).alloc _) (Turns.of_grown hg7) (fun j hj => .inl hj)
         have B7 := B0.turns T7 (fun hh => by have := nQ.out _ hh; omega)
         have B8 := B1.turns T7 (fun hh => by have := nQ.out _ hh; omega)
         have K7 : Turns nobody w w7 := Turns.step K T7 (fun j hj => .inr (by have := nQ.out _ hj; omega))
         have s7 := T7.size
         clear cB0 fB0
         have cB7 := B7.cell
         have fB7 := B7.frozen
         have lB7 := B7.lt
         replace hq7 := hide hq7
         clear hg7))
      have T8 : Turns (· = w.heap.size) w7 (w7.setCell ⟨w.heap.size, 1, none⟩ (.int .i64 (i + (k : Int) + 1))) := (by repeat' (first | exact Turns.refl _ _ | assumption | exact Or.inl rfl | exact Or.inr (Nat.le_refl _) | apply Turns.alloc | apply Turns.drew | apply Turns.drewN | apply Turns.setCell | (apply Or.inr; simp; done) | (apply Or.inr; simp; omega) | exact fun _ hh => False.elim hh | exact fun _ hh => Or.inl hh | (intro i hi; right; (try simp only at hi); omega) | (intro i hi; right; simp at hi; omega) | refine Turns.step ?_ (by assumption) ?_))
      go_roundw
      case rel =>
        refine ⟨k + 1, by omega, by go_num, ?_, ?_, B8.turns T8 (by omega), Turns.step K7 T8 (fun j hj => .inr (Nat.le_of_eq hj.symm)), by have := T8.size; omega⟩
        · rw [upto_succ, List.map_append, placeOf_ref]
          refine qrow_turns hq7.out T8 (fun g hg e => ?_)
          have := (q_typed hq7.out g hg).1
          omega
        · have e9 : i + ((k + 1 : Nat) : Int) = i + (k : Int) + 1 := by omega
          rw [e9]
          simpa using B7.set 1 (.int .i64 (i + (k : Int) + 1))
      case measure => simp [intOf]; omega
    · obtain rfl : k = n := by omega
      have hQ := hide Q
      obtain ⟨A', c', rfl, hnc⟩ := q_slice Q
      clear Q
      have cB0 := B0.cell; have fB0 := B0.frozen
      have cB1 := B1.cell; have fB1 := B1.frozen
      have lB0 := B0.lt
      have lB1 := B1.lt
      go_wp2_with fail
      have C1 : Blk (((wr.setCell ⟨w.heap.size + 1, 0, none⟩ (.int .i64 s)).setCell ⟨w.heap.size + 1, 1, none⟩ (.int .i64 (i + k))).setCell ⟨w.heap.size + 1, 2, none⟩ (.int .i64 o)) (w.heap.size + 1) #[.int .i64 s, .int .i64 (i + k), .int .i64 o] 44 := by
        simpa using ((B1.set 0 (.int .i64 s)).set 1 (.int .i64 (i + k))).set 2 (.int .i64 o)
      refine bodyPost_ret (ret_ref2 rfl _ _ (w.heap.size + 1) _ rfl C1 rfl) rfl ?_
      have T9 : Turns (· = w.heap.size + 1) wr (((wr.setCell ⟨w.heap.size + 1, 0, none⟩ (.int .i64 s)).setCell ⟨w.heap.size + 1, 1, none⟩ (.int .i64 (i + k))).setCell ⟨w.heap.size + 1, 2, none⟩ (.int .i64 o)) := (by repeat' (first | exact Turns.refl _ _ | assumption | exact Or.inl rfl | exact Or.inr (Nat.le_refl _) | apply Turns.alloc | apply Turns.drew | apply Turns.drewN | apply Turns.setCell | (apply Or.inr; simp; done) | (apply Or.inr; simp; omega) | exact fun _ hh => False.elim hh | exact fun _ hh => Or.inl hh | (intro i hi; right; (try simp only at hi); omega) | (intro i hi; right; simp at hi; omega) | refine Turns.step ?_ (by assumption) ?_))
      have Q9 := qrow_turns hQ.out T9 (fun g hg e => by have := (q_typed hQ.out g hg).1; omega)
      refine ⟨A', c', rfl, ints_of_q (c := c') (by rw [upto_length]; exact Q9), fun a ha => by have := (q_typed Q9 a.block (by simp [Value.ownBlock, ha])).1; omega, Turns.step K T9 (fun j hj => .inr (by omega))⟩

end Go.Proofs.Ytefgcdpceeeeaaa
