/- The example at the head of the pauses' laws; the walks of 'PauseBack', 'PauseSums'. -/
import Derived.Test.YtbiplmlkgbicnaaPause
set_option linter.unusedVariables false
namespace Go.Proofs.Ytbiplmlkgbicnaa
open Go.RowKit Go.Proofs.YtbiplmlkgbicnaaW.PrintWords

/-- What a pause frame is read as. -/
theorem pf_read {src : Ad} {q : Int} (hs : Bytes src.list) (h0 : 0 ≤ q) (h1 : q ≤ 65535) {bs : List Int} (eb : built (pf src q) = bs) :
    parseE bs = 0 ∧ parseF bs = normF (pf src q) ∧ Bytes bs ∧ bs.length = 60 ∧ isP (normF (pf src q)) = true ∧ pq (normF (pf src q)) = q := by
  have hb := pf_bad src q
  refine ⟨eb ▸ (parse_built hb).1, eb ▸ (parse_built hb).2, eb ▸ built_bytes (pf_ok hs h0 h1) hb, ?_, ?_, ?_⟩
  · rw [← eb, built_length]; simp [pf, headLen]
  · simp [isP, normF, pf, nth]
  · simp [pq, num, normF, pf, nth]; omega

set_option maxHeartbeats 2000000 in
theorem pshown_at (w : World) : Calls Try.prog 36 #[] w fun e w' => e = .returned (.bool true) ∧ Turns nobody w w' := by
  obtain ⟨bs, eb⟩ : ∃ bs, built (pf ⟨2, 0, 0, 0, 0, 0⟩ 7) = bs := ⟨_, rfl⟩
  obtain ⟨p1, p2, p3, p4, p5, p6⟩ := pf_read (src := ⟨2, 0, 0, 0, 0, 0⟩) (q := 7) (by simp [Bytes, Ad.list]) (by decide) (by decide) eb
  obtain ⟨g, eg⟩ : ∃ g, g = normF (pf ⟨2, 0, 0, 0, 0, 0⟩ 7) := ⟨_, rfl⟩
  rw [← eg] at p2 p5 p6
  clear eg
  have t1 : tk 1 1000 = 1 := by decide
  have t2 : tk 2 10 = 103 := by decide
  replace eb := hide eb
  replace p1 := hide p1
  replace p2 := hide p2
  replace p4 := hide p4
  replace p5 := hide p5
  go_enter Try.func36, Try.ntmps36
  go_wp2_with fail
  refine (ticks_ok 1 1000 _ (.inr (.inr rfl)) (by decide) (by decide)).mono ?_
  rintro e w1 ⟨rfl, k1⟩
  go_wp2_with fail
  refine (ticks_ok 2 10 _ (.inl rfl) (by decide) (by decide)).mono ?_
  rintro e w2 ⟨rfl, k2⟩
  go_wp2_with fail
  refine (pbuild_ok ⟨2, 0, 0, 0, 0, 0⟩ 7 _ (by decide) (by decide) eb.out).mono ?_
  rintro e w3 ⟨X, k, rfl, o3, k3⟩
  obtain ⟨x1, x2⟩ := o3.caps
  go_wp2_with fail
  refine (pparse_yes X k bs _ o3.reads p3 x1 x2 p1.out p2.out p5.out).mono ?_
  rintro e w4 ⟨rfl, k4⟩
  go_wp2_with fail
  go_returns
  exact ⟨rfl, ((k1.trans k2).trans k3).trans k4⟩

theorem open_src {w : World} {n : Nat} {cs : Array Value} (hf : Fits Try.prog w n 27 cs.toList) : ∃ a : Ad, cs = #[.int .u8 a.a0, .int .u8 a.a1, .int .u8 a.a2, .int .u8 a.a3, .int .u8 a.a4, .int .u8 a.a5] ∧ Bytes a.list := by
  obtain ⟨a, h1, h2⟩ := open_addr hf
  exact ⟨a, arr_of h1, h2⟩

set_option maxHeartbeats 2000000 in
theorem pauseBack_walk (cs : Array Value) (q : Int) (w : World) {n : Nat} (hf : Fits Try.prog w n 27 cs.toList) (wq : (Lit.int .u16 q).wf = true) :
    Calls Try.prog 14 #[.agg cs, .int .u16 q] w fun e w' => e = .returned (.bool true) ∧ Below w.heap.size w w' := by
  obtain ⟨a, rfl, hs⟩ := open_src hf
  obtain ⟨q0, q1⟩ := bounds_u16 wq
  obtain ⟨bs, eb⟩ : ∃ bs, built (pf a q) = bs := ⟨_, rfl⟩
  obtain ⟨p1, p2, p3, p4, p5, p6⟩ := pf_read hs q0 q1 eb
  obtain ⟨g, eg⟩ : ∃ g, g = normF (pf a q) := ⟨_, rfl⟩
  rw [← eg] at p2 p5 p6
  clear eg hf wq
  have p7 : ((bs.length : Int) == 60) = true := by rw [p4]; rfl
  have B0 := Blk.new w #[.int .u8 a.a0, .int .u8 a.a1, .int .u8 a.a2, .int .u8 a.a3, .int .u8 a.a4, .int .u8 a.a5] 27
  have k0 : Turns nobody w (w.alloc (.cells #[.int .u8 a.a0, .int .u8 a.a1, .int .u8 a.a2, .int .u8 a.a3, .int .u8 a.a4, .int .u8 a.a5] 27)) := (by repeat' (first | exact Turns.refl _ _ | assumption | exact Or.inl rfl | exact Or.inr (Nat.le_refl _) | apply Turns.alloc | apply Turns.drew | apply Turns.drewN | apply Turns.setCell | (apply Or.inr; simp; done) | (apply Or.inr; simp; omega) | exact fun _ hh => False.elim hh | exact fun _ hh => Or.inl hh | (intro i hi; right; (try simp only at hi); omega) | (intro i hi; right; simp at hi; omega) | refine Turns.step ?_ (by assumption) ?_))
  replace eb := hide eb
  replace p1 := hide p1
  replace p2 := hide p2
  replace p4 := hide p4
  replace p5 := hide p5
  go_enter Try.func14, Try.ntmps14
  go_wp2_with fail
  refine (pshown_at _).mono ?_
  rintro e w1 ⟨rfl, k1⟩
  try clear cB0 fB0
  replace B0 := B0.turns k1 (by intro hh; first | exact False.elim hh | ((try simp only at hh); omega) | (simp at hh; omega))
  have cB0 := B0.cell; have fB0 := B0.frozen
  go_wp2_with fail
  refine (pbuild_ok a q _ q0 q1 eb.out).mono ?_
  rintro e w3 ⟨X, k, rfl, o3, k3⟩
  obtain ⟨x1, x2⟩ := o3.caps
  clear cB0 fB0 B0
  go_wp2_with fail
  refine (pparse_yes X k bs _ o3.reads p3 x1 x2 p1.out p2.out p5.out).mono ?_
  rintro e w4 ⟨rfl, k4⟩
  go_wp2_with fail
  go_returns
  exact ⟨rfl, Turns.none_below (((k0.trans k1).trans k3).trans k4)⟩

theorem speed_cases (t : Int) (h : 0 ≤ t) : t % 3 = 0 ∨ t % 3 = 1 ∨ t % 3 = 2 := by omega
theorem tk_sums {x y s : Int} (hs : Speed s) (hx : 0 ≤ x) (hy : 0 ≤ y) : tk (x + y) s ≤ tk x s + tk y s ∧ tk x s + tk y s ≤ tk (x + y) s + 1 := by
  unfold tk
  rcases hs with rfl | rfl | rfl <;> omega

set_option maxHeartbeats 2000000 in
theorem pauseSums_walk (a b t : Int) (w : World) (wa : (Lit.int .u16 a).wf = true) (wb : (Lit.int .u16 b).wf = true) (wt : (Lit.int .u8 t).wf = true) :
    Calls Try.prog 16 #[.int .u16 a, .int .u16 b, .int .u8 t] w fun e w' => e = .returned (.bool true) ∧ Below w.heap.size w w' := by
  obtain ⟨a0, a1⟩ := bounds_u16 wa
  obtain ⟨b0, b1⟩ := bounds_u16 wb
  obtain ⟨t0, t1⟩ := bounds_u8 wt
  clear wa wb wt
  obtain ⟨x, ex, x0, x1⟩ : ∃ x, a % 32768 = x ∧ 0 ≤ x ∧ x < 32768 := ⟨_, rfl, by omega, by omega⟩
  obtain ⟨y, ey, y0, y1⟩ : ∃ y, b % 32768 = y ∧ 0 ≤ y ∧ y < 32768 := ⟨_, rfl, by omega, by omega⟩
  rcases speed_cases t t0 with et | et | et
  · skip
    have hs : Speed 10 := (.inl rfl)
    have z1 := tk_bounds hs x0 (show x ≤ 65535 by omega)
    have z2 := tk_bounds hs y0 (show y ≤ 65535 by omega)
    have z3 := tk_bounds (q := x + y) hs (by omega) (by omega)
    have z4 := tk_sums hs x0 y0
    replace hs := hide hs
    go_enter Try.func16, Try.ntmps16
    go_wp2_with fail
    refine (pshown_at _).mono ?_
    rintro e w1 ⟨rfl, k1⟩
    go_wp2_with fail
    refine (ticks_ok x 10 _ hs.out x0 (by omega)).mono ?_
    rintro e w2 ⟨rfl, k2⟩
    go_wp2_with fail
    refine (ticks_ok y 10 _ hs.out y0 (by omega)).mono ?_
    rintro e w3 ⟨rfl, k3⟩
    go_wp2_with fail
    refine (ticks_ok (x + y) 10 _ hs.out (by omega) (by omega)).mono ?_
    rintro e w4 ⟨rfl, k4⟩
    go_wp2_with fail
    go_returns
    exact ⟨rfl, Turns.none_below ((((k1.alloc _).trans k2).trans k3).trans k4)⟩
  · skip
    have hs : Speed 100 := (.inr (.inl rfl))
    have z1 := tk_bounds hs x0 (show x ≤ 65535 by omega)
    have z2 := tk_bounds hs y0 (show y ≤ 65535 by omega)
    have z3 := tk_bounds (q := x + y) hs (by omega) (by omega)
    have z4 := tk_sums hs x0 y0
    replace hs := hide hs
    go_enter Try.func16, Try.ntmps16
    go_wp2_with fail
    refine (pshown_at _).mono ?_
    rintro e w1 ⟨rfl, k1⟩
    go_wp2_with fail
    refine (ticks_ok x 100 _ hs.out x0 (by omega)).mono ?_
    rintro e w2 ⟨rfl, k2⟩
    go_wp2_with fail
    refine (ticks_ok y 100 _ hs.out y0 (by omega)).mono ?_
    rintro e w3 ⟨rfl, k3⟩
    go_wp2_with fail
    refine (ticks_ok (x + y) 100 _ hs.out (by omega) (by omega)).mono ?_
    rintro e w4 ⟨rfl, k4⟩
    go_wp2_with fail
    go_returns
    exact ⟨rfl, Turns.none_below ((((k1.alloc _).trans k2).trans k3).trans k4)⟩
  · skip
    have hs : Speed 1000 := (.inr (.inr rfl))
    have z1 := tk_bounds hs x0 (show x ≤ 65535 by omega)
    have z2 := tk_bounds hs y0 (show y ≤ 65535 by omega)
    have z3 := tk_bounds (q := x + y) hs (by omega) (by omega)
    have z4 := tk_sums hs x0 y0
    replace hs := hide hs
    go_enter Try.func16, Try.ntmps16
    go_wp2_with fail
    refine (pshown_at _).mono ?_
    rintro e w1 ⟨rfl, k1⟩
    go_wp2_with fail
    refine (ticks_ok x 1000 _ hs.out x0 (by omega)).mono ?_
    rintro e w2 ⟨rfl, k2⟩
    go_wp2_with fail
    refine (ticks_ok y 1000 _ hs.out y0 (by omega)).mono ?_
    rintro e w3 ⟨rfl, k3⟩
    go_wp2_with fail
    refine (ticks_ok (x + y) 1000 _ hs.out (by omega) (by omega)).mono ?_
    rintro e w4 ⟨rfl, k4⟩
    go_wp2_with fail
    go_returns
    exact ⟨rfl, Turns.none_below ((((k1.alloc _).trans k2).trans k3).trans k4)⟩

end Go.Proofs.Ytbiplmlkgbicnaa
