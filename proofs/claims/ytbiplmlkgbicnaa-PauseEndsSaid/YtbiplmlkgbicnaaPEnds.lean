/- The walk of the law 'PauseEnds'. -/
import Derived.Test.YtbiplmlkgbicnaaPShown
set_option linter.unusedVariables false
namespace Go.Proofs.Ytbiplmlkgbicnaa
open Go.RowKit Go.Proofs.YtbiplmlkgbicnaaW.PrintWords

theorem ticks_as (q s : Int) (w : World) (hs : Speed s) (h0 : 0 ≤ q) (h1 : q ≤ 65535) {v : Int} (hv : tk q s = v) : Calls Try.prog 41 #[.int .i64 q, .int .i64 s] w fun e w' => e = .returned (.tuple #[.int .i64 v, .int .i64 0]) ∧ Turns nobody w w' := hv ▸ ticks_ok q s w hs h0 h1
theorem start_as (l q s : Int) (w : World) (hs : Speed s) (h0 : 0 ≤ q) (h1 : q ≤ 65535) {v : Int} (hv : tk q s = v) : Calls Try.prog 43 #[.int .i64 l, .int .i64 q, .int .i64 s] w fun e w' => e = .returned (.int .i64 v) ∧ Turns nobody w w' := hv ▸ start_ok l q s w hs h0 h1
theorem tick_as (l : Int) (w : World) (h0 : -9223372036854775808 ≤ l) (h1 : l ≤ 9223372036854775807) {v : Int} (hv : down l = v) : Calls Try.prog 45 #[.int .i64 l] w fun e w' => e = .returned (.int .i64 v) ∧ Turns nobody w w' := hv ▸ tick_law l w h0 h1
theorem tk_zero {s : Int} (hs : Speed s) : tk 0 s = 0 := by unfold tk; rcases hs with rfl | rfl | rfl <;> decide
theorem tk_mono {x y s : Int} (hs : Speed s) (h : x ≤ y) : tk x s ≤ tk y s := by unfold tk; rcases hs with rfl | rfl | rfl <;> omega
theorem tk_fast {x s : Int} (hs : Speed s) (h : 0 ≤ x) : tk x 1000 ≤ tk x s := by unfold tk; rcases hs with rfl | rfl | rfl <;> omega

set_option maxHeartbeats 4000000 in
set_option maxRecDepth 100000 in
theorem pauseEnds_walk (q m t l : Int) (w : World) (wq : (Lit.int .u16 q).wf = true) (wm : (Lit.int .u8 m).wf = true) (wt : (Lit.int .u8 t).wf = true) (wl : (Lit.int .i64 l).wf = true) :
    Calls Try.prog 18 #[.int .u16 q, .int .u8 m, .int .u8 t, .int .i64 l] w fun e w' => e = .returned (.bool true) ∧ Below w.heap.size w w' := by
  obtain ⟨q0, q1⟩ := bounds_u16 wq
  obtain ⟨m0, m1⟩ := bounds_u8 wm
  obtain ⟨t0, t1⟩ := bounds_u8 wt
  clear wq wm wt wl
  rcases speed_cases t t0 with et | et | et
  · skip
    have hs : Speed 10 := (.inl rfl)
    have z1 := tk_bounds hs q0 q1
    obtain ⟨N, eN⟩ : ∃ N : Nat, tk q 10 = N := ⟨(tk q 10).toNat, by omega⟩
    have zN : (N : Int) ≤ 3400000 := by omega
    have z2 := tk_zero hs
    obtain ⟨O, eO⟩ : ∃ O, tk q 1000 = O := ⟨_, rfl⟩
    have z3 : O ≤ N := by have := tk_fast hs q0; omega
    obtain ⟨M, eM⟩ : ∃ M, tk (q + m) 10 = M := ⟨_, rfl⟩
    have z4 : (N : Int) ≤ M := by have := tk_mono (x := q) (y := q + m) hs (by omega); omega
    clear z1
    replace hs := hide hs
    replace eN := hide eN
    replace eO := hide eO
    replace eM := hide eM
    replace z2 := hide z2
    go_enter Try.func18, Try.ntmps18
    go_wp2_with fail
    refine (pshown_at _).mono ?_
    rintro e w1 ⟨rfl, k1⟩
    have S0 := Blk.new w1 #[.int .i64 10, .int .i64 100, .int .i64 1000] 3
    replace k1 := k1.alloc (.cells #[.int .i64 10, .int .i64 100, .int .i64 1000] 3)
    go_wp2_with fail
    refine (ticks_as q 10 _ hs.out q0 q1 eN.out).mono ?_
    rintro e w2 ⟨rfl, k2⟩
    try clear cS0 fS0
    replace S0 := S0.turns k2 (by intro hh; first | exact False.elim hh | ((try simp only at hh); omega) | (simp at hh; omega))
    have cS0 := S0.cell; have fS0 := S0.frozen
    go_wp2_with fail
    refine (start_as l q 10 _ hs.out q0 q1 eN.out).mono ?_
    rintro e w3 ⟨rfl, k3⟩
    try clear cS0 fS0
    replace S0 := S0.turns k3 (by intro hh; first | exact False.elim hh | ((try simp only at hh); omega) | (simp at hh; omega))
    have cS0 := S0.cell; have fS0 := S0.frozen
    go_wp2_with fail
    refine (start_as l 0 10 _ hs.out (by decide) (by decide) z2.out).mono ?_
    rintro e w4 ⟨rfl, k4⟩
    try clear cS0 fS0
    replace S0 := S0.turns k4 (by intro hh; first | exact False.elim hh | ((try simp only at hh); omega) | (simp at hh; omega))
    have cS0 := S0.cell; have fS0 := S0.frozen
    have K4 := ((k1.trans k2).trans k3).trans k4
    clear k1 k2 k3 k4
    go_wp2_with fail
    go_loopw [14, 15] (fun a i wl => ∃ k : Nat, k ≤ N ∧ i = .int .i64 k ∧ a = .int .i64 ((N : Int) - k) ∧ Turns nobody w4 wl) (fun _ i _ => N - (intOf i).toNat)
    case atStart => exact ⟨0, Nat.zero_le _, rfl, by simp, Turns.refl _ _⟩
    case round =>
      obtain ⟨k, hk, rfl, rfl, K⟩ := hrel
      by_cases hlt : k < N
      · have e1 : (((N : Int) - (k : Int)) == 0) = false := beq_eq_false_iff_ne.2 (by omega)
        have i1 : (k : Int) < (N : Int) := by omega
        have e2 : down ((N : Int) - (k : Int)) = (N : Int) - ((k + 1 : Nat) : Int) := by unfold down; rw [if_neg (by omega)]; omega
        replace e2 := hide e2
        clear cS0 fS0
        go_wp2_with fail
        refine (tick_as _ _ (by omega) (by omega) e2.out).mono ?_
        rintro e w5 ⟨rfl, k5⟩
        go_wp2_with fail
        go_roundw
        case rel => exact ⟨k + 1, by omega, by go_num, rfl, K.trans k5⟩
        case measure => simp [intOf]; omega
      · obtain rfl : k = N := by omega
        have eZ : (k : Int) - (k : Int) = 0 := by omega
        rw [eZ]
        clear eZ
        have e3 : down 0 = 0 := by decide
        replace e3 := hide e3
        replace S0 := S0.turns K (by intro hh; first | exact False.elim hh | ((try simp only at hh); omega) | (simp at hh; omega))
        clear cS0 fS0
        have cS0 := S0.cell
        have fS0 := S0.frozen
        have K5 := K4.trans K
        by_cases hm : q + m ≤ 65535
        · skip
          go_wp2_with fail
          refine (ticks_as (q + m) 10 _ hs.out (by omega) hm eM.out).mono ?_
          rintro e w6 ⟨rfl, k6⟩
          clear cS0 fS0
          go_wp2_with fail
          refine (ticks_as q 1000 _ (.inr (.inr rfl)) q0 q1 eO.out).mono ?_
          rintro e w7 ⟨rfl, k7⟩
          go_wp2_with fail
          refine (tick_as 0 _ (by decide) (by decide) e3.out).mono ?_
          rintro e w8 ⟨rfl, k8⟩
          go_wp2_with fail
          go_returns
          exact ⟨rfl, Turns.none_below (((K5.trans k6).trans k7).trans k8)⟩
        · clear cS0 fS0
          go_wp2_with fail
          refine (ticks_as q 1000 _ (.inr (.inr rfl)) q0 q1 eO.out).mono ?_
          rintro e w7 ⟨rfl, k7⟩
          go_wp2_with fail
          refine (tick_as 0 _ (by decide) (by decide) e3.out).mono ?_
          rintro e w8 ⟨rfl, k8⟩
          go_wp2_with fail
          go_returns
          exact ⟨rfl, Turns.none_below ((K5.trans k7).trans k8)⟩
  · skip
    have hs : Speed 100 := (.inr (.inl rfl))
    have z1 := tk_bounds hs q0 q1
    obtain ⟨N, eN⟩ : ∃ N : Nat, tk q 100 = N := ⟨(tk q 100).toNat, by omega⟩
    have zN : (N : Int) ≤ 3400000 := by omega
    have z2 := tk_zero hs
    obtain ⟨O, eO⟩ : ∃ O, tk q 1000 = O := ⟨_, rfl⟩
    have z3 : O ≤ N := by have := tk_fast hs q0; omega
    obtain ⟨M, eM⟩ : ∃ M, tk (q + m) 100 = M := ⟨_, rfl⟩
    have z4 : (N : Int) ≤ M := by have := tk_mono (x := q) (y := q + m) hs (by omega); omega
    clear z1
    replace hs := hide hs
    replace eN := hide eN
    replace eO := hide eO
    replace eM := hide eM
    replace z2 := hide z2
    go_enter Try.func18, Try.ntmps18
    go_wp2_with fail
    refine (pshown_at _).mono ?_
    rintro e w1 ⟨rfl, k1⟩
    have S0 := Blk.new w1 #[.int .i64 10, .int .i64 100, .int .i64 1000] 3
    replace k1 := k1.alloc (.cells #[.int .i64 10, .int .i64 100, .int .i64 1000] 3)
    go_wp2_with fail
    refine (ticks_as q 100 _ hs.out q0 q1 eN.out).mono ?_
    rintro e w2 ⟨rfl, k2⟩
    try clear cS0 fS0
    replace S0 := S0.turns k2 (by intro hh; first | exact False.elim hh | ((try simp only at hh); omega) | (simp at hh; omega))
    have cS0 := S0.cell; have fS0 := S0.frozen
    go_wp2_with fail
    refine (start_as l q 100 _ hs.out q0 q1 eN.out).mono ?_
    rintro e w3 ⟨rfl, k3⟩
    try clear cS0 fS0
    replace S0 := S0.turns k3 (by intro hh; first | exact False.elim hh | ((try simp only at hh); omega) | (simp at hh; omega))
    have cS0 := S0.cell; have fS0 := S0.frozen
    go_wp2_with fail
    refine (start_as l 0 100 _ hs.out (by decide) (by decide) z2.out).mono ?_
    rintro e w4 ⟨rfl, k4⟩
    try clear cS0 fS0
    replace S0 := S0.turns k4 (by intro hh; first | exact False.elim hh | ((try simp only at hh); omega) | (simp at hh; omega))
    have cS0 := S0.cell; have fS0 := S0.frozen
    have K4 := ((k1.trans k2).trans k3).trans k4
    clear k1 k2 k3 k4
    go_wp2_with fail
    go_loopw [14, 15] (fun a i wl => ∃ k : Nat, k ≤ N ∧ i = .int .i64 k ∧ a = .int .i64 ((N : Int) - k) ∧ Turns nobody w4 wl) (fun _ i _ => N - (intOf i).toNat)
    case atStart => exact ⟨0, Nat.zero_le _, rfl, by simp, Turns.refl _ _⟩
    case round =>
      obtain ⟨k, hk, rfl, rfl, K⟩ := hrel
      by_cases hlt : k < N
      · have e1 : (((N : Int) - (k : Int)) == 0) = false := beq_eq_false_iff_ne.2 (by omega)
        have i1 : (k : Int) < (N : Int) := by omega
        have e2 : down ((N : Int) - (k : Int)) = (N : Int) - ((k + 1 : Nat) : Int) := by unfold down; rw [if_neg (by omega)]; omega
        replace e2 := hide e2
        clear cS0 fS0
        go_wp2_with fail
        refine (tick_as _ _ (by omega) (by omega) e2.out).mono ?_
        rintro e w5 ⟨rfl, k5⟩
        go_wp2_with fail
        go_roundw
        case rel => exact ⟨k + 1, by omega, by go_num, rfl, K.trans k5⟩
        case measure => simp [intOf]; omega
      · obtain rfl : k = N := by omega
        have eZ : (k : Int) - (k : Int) = 0 := by omega
        rw [eZ]
        clear eZ
        have e3 : down 0 = 0 := by decide
        replace e3 := hide e3
        replace S0 := S0.turns K (by intro hh; first | exact False.elim hh | ((try simp only at hh); omega) | (simp at hh; omega))
        clear cS0 fS0
        have cS0 := S0.cell
        have fS0 := S0.frozen
        have K5 := K4.trans K
        by_cases hm : q + m ≤ 65535
        · skip
          go_wp2_with fail
          refine (ticks_as (q + m) 100 _ hs.out (by omega) hm eM.out).mono ?_
          rintro e w6 ⟨rfl, k6⟩
          clear cS0 fS0
          go_wp2_with fail
          refine (ticks_as q 1000 _ (.inr (.inr rfl)) q0 q1 eO.out).mono ?_
          rintro e w7 ⟨rfl, k7⟩
          go_wp2_with fail
          refine (tick_as 0 _ (by decide) (by decide) e3.out).mono ?_
          rintro e w8 ⟨rfl, k8⟩
          go_wp2_with fail
          go_returns
          exact ⟨rfl, Turns.none_below (((K5.trans k6).trans k7).trans k8)⟩
        · clear cS0 fS0
          go_wp2_with fail
          refine (ticks_as q 1000 _ (.inr (.inr rfl)) q0 q1 eO.out).mono ?_
          rintro e w7 ⟨rfl, k7⟩
          go_wp2_with fail
          refine (tick_as 0 _ (by decide) (by decide) e3.out).mono ?_
          rintro e w8 ⟨rfl, k8⟩
          go_wp2_with fail
          go_returns
          exact ⟨rfl, Turns.none_below ((K5.trans k7).trans k8)⟩
  · skip
    have hs : Speed 1000 := (.inr (.inr rfl))
    have z1 := tk_bounds hs q0 q1
    obtain ⟨N, eN⟩ : ∃ N : Nat, tk q 1000 = N := ⟨(tk q 1000).toNat, by omega⟩
    have zN : (N : Int) ≤ 3400000 := by omega
    have z2 := tk_zero hs
    obtain ⟨O, eO⟩ : ∃ O, tk q 1000 = O := ⟨_, rfl⟩
    have z3 : O ≤ N := by have := tk_fast hs q0; omega
    obtain ⟨M, eM⟩ : ∃ M, tk (q + m) 1000 = M := ⟨_, rfl⟩
    have z4 : (N : Int) ≤ M := by have := tk_mono (x := q) (y := q + m) hs (by omega); omega
    clear z1
    replace hs := hide hs
    replace eN := hide eN
    replace eO := hide eO
    replace eM := hide eM
    replace z2 := hide z2
    go_enter Try.func18, Try.ntmps18
    go_wp2_with fail
    refine (pshown_at _).mono ?_
    rintro e w1 ⟨rfl, k1⟩
    have S0 := Blk.new w1 #[.int .i64 10, .int .i64 100, .int .i64 1000] 3
    replace k1 := k1.alloc (.cells #[.int .i64 10, .int .i64 100, .int .i64 1000] 3)
    go_wp2_with fail
    refine (ticks_as q 1000 _ hs.out q0 q1 eN.out).mono ?_
    rintro e w2 ⟨rfl, k2⟩
    try clear cS0 fS0
    replace S0 := S0.turns k2 (by intro hh; first | exact False.elim hh | ((try simp only at hh); omega) | (simp at hh; omega))
    have cS0 := S0.cell; have fS0 := S0.frozen
    go_wp2_with fail
    refine (start_as l q 1000 _ hs.out q0 q1 eN.out).mono ?_
    rintro e w3 ⟨rfl, k3⟩
    try clear cS0 fS0
    replace S0 := S0.turns k3 (by intro hh; first | exact False.elim hh | ((try simp only at hh); omega) | (simp at hh; omega))
    have cS0 := S0.cell; have fS0 := S0.frozen
    go_wp2_with fail
    refine (start_as l 0 1000 _ hs.out (by decide) (by decide) z2.out).mono ?_
    rintro e w4 ⟨rfl, k4⟩
    try clear cS0 fS0
    replace S0 := S0.turns k4 (by intro hh; first | exact False.elim hh | ((try simp only at hh); omega) | (simp at hh; omega))
    have cS0 := S0.cell; have fS0 := S0.frozen
    have K4 := ((k1.trans k2).trans k3).trans k4
    clear k1 k2 k3 k4
    go_wp2_with fail
    go_loopw [14, 15] (fun a i wl => ∃ k : Nat, k ≤ N ∧ i = .int .i64 k ∧ a = .int .i64 ((N : Int) - k) ∧ Turns nobody w4 wl) (fun _ i _ => N - (intOf i).toNat)
    case atStart => exact ⟨0, Nat.zero_le _, rfl, by simp, Turns.refl _ _⟩
    case round =>
      obtain ⟨k, hk, rfl, rfl, K⟩ := hrel
      by_cases hlt : k < N
      · have e1 : (((N : Int) - (k : Int)) == 0) = false := beq_eq_false_iff_ne.2 (by omega)
        have i1 : (k : Int) < (N : Int) := by omega
        have e2 : down ((N : Int) - (k : Int)) = (N : Int) - ((k + 1 : Nat) : Int) := by unfold down; rw [if_neg (by omega)]; omega
        replace e2 := hide e2
        clear cS0 fS0
        go_wp2_with fail
        refine (tick_as _ _ (by omega) (by omega) e2.out).mono ?_
        rintro e w5 ⟨rfl, k5⟩
        go_wp2_with fail
        go_roundw
        case rel => exact ⟨k + 1, by omega, by go_num, rfl, K.trans k5⟩
        case measure => simp [intOf]; omega
      · obtain rfl : k = N := by omega
        have eZ : (k : Int) - (k : Int) = 0 := by omega
        rw [eZ]
        clear eZ
        have e3 : down 0 = 0 := by decide
        replace e3 := hide e3
        replace S0 := S0.turns K (by intro hh; first | exact False.elim hh | ((try simp only at hh); omega) | (simp at hh; omega))
        clear cS0 fS0
        have cS0 := S0.cell
        have fS0 := S0.frozen
        have K5 := K4.trans K
        by_cases hm : q + m ≤ 65535
        · skip
          go_wp2_with fail
          refine (ticks_as (q + m) 1000 _ hs.out (by omega) hm eM.out).mono ?_
          rintro e w6 ⟨rfl, k6⟩
          clear cS0 fS0
          go_wp2_with fail
          refine (ticks_as q 1000 _ (.inr (.inr rfl)) q0 q1 eO.out).mono ?_
          rintro e w7 ⟨rfl, k7⟩
          go_wp2_with fail
          refine (tick_as 0 _ (by decide) (by decide) e3.out).mono ?_
          rintro e w8 ⟨rfl, k8⟩
          go_wp2_with fail
          go_returns
          exact ⟨rfl, Turns.none_below (((K5.trans k6).trans k7).trans k8)⟩
        · clear cS0 fS0
          go_wp2_with fail
          refine (ticks_as q 1000 _ (.inr (.inr rfl)) q0 q1 eO.out).mono ?_
          rintro e w7 ⟨rfl, k7⟩
          go_wp2_with fail
          refine (tick_as 0 _ (by decide) (by decide) e3.out).mono ?_
          rintro e w8 ⟨rfl, k8⟩
          go_wp2_with fail
          go_returns
          exact ⟨rfl, Turns.none_below ((K5.trans k7).trans k8)⟩

end Go.Proofs.Ytbiplmlkgbicnaa
