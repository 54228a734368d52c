/- The walk of the law 'RingFull'. -/
import Derived.Test.YtefgcdpceeeeaaaPeeks
set_option linter.unusedVariables false
namespace Go.Proofs.Ytefgcdpceeeeaaa
open Go.RowKit Go.Proofs.YtefgcdpceeeeaaaW.PrintWords

theorem Try.info4 : (Try.prog.info? 4).map (fun i => (i.zero, i.size, i.bytes)) = some (some (.bool false), 1, 1) := by kernel_rfl
theorem make_bools (n : Nat) (hn : n ≤ 1000) : ∀ W : World, (Instr.makeSlice 36 (.int .i64 (n : Int)) (.int .i64 (n : Int))).run Try.prog W = .ok (.slice (some ⟨W.heap.size, 0, none⟩) n n) (W.alloc (.cells (madeCells #[.bool false] n) 4)) := by
  intro W
  obtain ⟨i0, hi, hz0, hz1, hz2⟩ := info_parts Try.info4
  have h := run_make (P := Try.prog) W 36 4 i0 (.bool false) Try.underlying36 hi hz0 .i64 .i64 n n (by omega) (Int.le_refl _) (by rw [hz2]; omega) (by omega)
  rw [hz1] at h
  simpa [Value.cells] using h

/-- Which places have been seen: those of the first i from f on. -/
def SeenAt (w : World) (g N : Nat) (f : Int) (i : Nat) : Prop :=
  ∃ cs, Blk w g cs 4 ∧ cs.size = N ∧ ∀ p : Nat, p < N → cs[p]? = some (.bool (decide (∃ j : Nat, j < i ∧ (f + j) % (N : Int) = p)))
theorem SeenAt.turns {w w' : World} {g N : Nat} {f : Int} {i : Nat} {S : Nat → Prop} (h : SeenAt w g N f i) (k : Turns S w w') (hn : ¬ S g) : SeenAt w' g N f i := by
  obtain ⟨cs, h1, h2, h3⟩ := h
  exact ⟨cs, h1.turns k hn, h2, h3⟩
theorem seen_made (w : World) (N : Nat) (f : Int) : SeenAt (w.alloc (.cells (madeCells #[.bool false] N) 4)) w.heap.size N f 0 := by
  refine ⟨_, Blk.new _ _ _, by simp [madeCells], fun p hp => ?_⟩
  simp [madeCells, hp, Nat.mod_one]
theorem place_ne {N f : Int} {i j : Nat} (hN : 0 < N) (hj : j < i) (hi : (i : Int) < N) : (f + j) % N ≠ (f + i) % N := by
  intro e
  have h1 := Int.emod_emod_of_dvd
  have h2 : ((f + i) - (f + j)) % N = 0 := Int.emod_eq_emod_iff_emod_sub_eq_zero.1 e.symm
  rw [show (f + (i : Int)) - (f + j) = (i : Int) - j by omega, Int.emod_eq_of_lt (by omega) (by omega)] at h2
  omega
theorem SeenAt.cell {w : World} {g N : Nat} {f : Int} {i p : Nat} (h : SeenAt w g N f i) (hi : i < N) (hp : p < N) (e : (f + i) % (N : Int) = p) :
    g < w.heap.size ∧ w.cell? ⟨g, p, none⟩ = some (.bool false) ∧ w.frozen? ⟨g, p, none⟩ = false ∧ SeenAt (w.setCell ⟨g, p, none⟩ (.bool true)) g N f (i + 1) := by
  obtain ⟨cs, h1, h2, h3⟩ := h
  have hno : ¬ ∃ j : Nat, j < i ∧ (f + j) % (N : Int) = p := by
    rintro ⟨j, hj, ej⟩
    exact place_ne (N := N) (f := f) (by omega) hj (by omega) (ej.trans e.symm)
  refine ⟨h1.lt, ?_, h1.frozen p, ⟨_, h1.set p _, by simpa using h2, fun q hq => ?_⟩⟩
  · rw [h1.cell p, h3 p hp]
    simp [hno]
  · by_cases hqp : p = q
    · subst hqp
      rw [Array.getElem?_setIfInBounds_self_of_lt (by omega)]
      have : ∃ j : Nat, j < i + 1 ∧ (f + j) % (N : Int) = p := ⟨i, by omega, e⟩
      simp [this]
    · rw [Array.getElem?_setIfInBounds_ne hqp, h3 q hq]
      congr 2
      rw [Bool.eq_iff_iff, decide_eq_true_iff, decide_eq_true_iff]
      constructor
      · rintro ⟨j, hj, ej⟩
        exact ⟨j, by omega, ej⟩
      · rintro ⟨j, hj, ej⟩
        rcases Nat.lt_or_ge j i with hji | hji
        · exact ⟨j, hji, ej⟩
        · obtain rfl : j = i := by omega
          exfalso
          apply hqp
          omega

set_option maxHeartbeats 2000000 in
set_option maxRecDepth 100000 in
theorem ringFull_walk (x z : Int) (w : World) (wx : (Lit.int .u8 x).wf = true) (wz : (Lit.int .u8 z).wf = true) :
    Calls Try.prog 4 #[.int .u8 x, .int .u8 z] w fun e w' => e = .returned (.bool true) ∧ Below w.heap.size w w' := by
  have bx := bounds_u8 wx
  have bz := bounds_u8 wz
  obtain ⟨N, hN⟩ : ∃ N : Nat, (N : Int) = 2 + x % 63 := ⟨(2 + x % 63).toNat, by omega⟩
  obtain ⟨Z, rfl⟩ : ∃ Z : Nat, z = Z := ⟨z.toNat, by omega⟩
  have n0 : 2 ≤ (N : Int) := by omega
  have n1 : (N : Int) ≤ 64 := by omega
  have t1 : Int.tmod x 63 = (N : Int) - 2 := by rw [Int.tmod_eq_emod_of_nonneg bx.1]; omega
  have x1 : x % 63 = (N : Int) - 2 := by omega
  have x3 : 2 + ((N : Int) - 2) = N := by omega
  have hn0 : ¬ (N : Int) = 0 := by omega
  have w2' : IntKind.i64.wrap (Z : Int) = Z := IntWalk.i64_in _ ⟨by omega, by omega⟩
  have hmk := hide (make_bools N (by omega))
  clear hN wx wz
  go_enter Try.func4, Try.ntmps4
  go_wp2_with fail
  refine (shown_at _).mono ?_
  rintro e w1 ⟨rfl, k1⟩
  go_wp2_with fail
  refine (new_ok (N : Int) _ n0 n1).mono ?_
  rintro e w2 ⟨rfl, R0, k2⟩
  have K2 : Turns nobody w w2 := (by repeat' (first | exact Turns.refl _ _ | assumption | exact Or.inl rfl | exact Or.inr (Nat.le_refl _) | apply Turns.alloc | apply Turns.drew | apply Turns.drewN | apply Turns.setCell | (apply Or.inr; simp; done) | (apply Or.inr; simp; omega) | exact fun _ hh => False.elim hh | exact fun _ hh => Or.inl hh | (intro i hi; right; (try simp only at hi); omega) | (intro i hi; right; simp at hi; omega) | refine Turns.step ?_ (by assumption) ?_))
  have l1 := k1.size
  have R0 : RG w2 w1.heap.size N (((0 : Nat) : Int) % N) 0 := by
    rw [show ((0 : Nat) : Int) % N = 0 from by simp]; exact R0
  go_wp2_with fail
  go_loopw [9] (fun i wr => ∃ k : Nat, k ≤ Z ∧ i = .int .i64 k ∧ RG wr w1.heap.size N ((k : Int) % N) 0 ∧ Turns nobody w wr) (fun i _ => Z - (intOf i).toNat)
  case atStart => exact ⟨0, Nat.zero_le _, rfl, R0, K2⟩
  case round =>
    clear R0 K2
    obtain ⟨k, hk, rfl, R, K⟩ := hrel
    have f0 := R.f0
    by_cases hlt : k < Z
    · skip
      go_wp2_with fail
      refine (put_ok R 1 (by omega) (by omega)).mono ?_
      rintro e w4 ⟨v, rfl, q4, R4, k4⟩
      go_wp2_with fail
      refine (take_ok R4 (by omega)).mono ?_
      rintro e w5 ⟨rfl, R5, k5⟩
      have K5 : Turns nobody w w5 := Turns.step (Turns.step K k4 (fun i hi => .inr (by have e : i = w1.heap.size := hi; omega))) k5 (fun i hi => .inr (by have e : i = w1.heap.size := hi; omega))
      have R5 : RG w5 w1.heap.size N (((k + 1 : Nat) : Int) % N) 0 := by
        have e1 : ((k : Int) % N + 1) % N = ((k + 1 : Nat) : Int) % N := by rw [Int.emod_add_emod]; simp
        rw [e1] at R5
        exact R5
      go_wp2_with fail
      go_roundw
      case rel => exact ⟨k + 1, by omega, by go_num, R5, K5⟩
      case measure => simp [intOf]; omega
    · obtain rfl : k = Z := by omega
      obtain ⟨f, hf⟩ : ∃ f, f = (k : Int) % N := ⟨_, rfl⟩
      have tz : Int.tmod (k : Int) N = f := by rw [Int.tmod_eq_emod_of_nonneg (by omega)]; exact hf.symm
      rw [← hf] at R f0
      clear hf
      have rl := R.lt
      go_wp2_with fail
      refine (put_ok R N (by omega) (by omega)).mono ?_
      rintro e w4 ⟨v, rfl, q4, R4, k4⟩
      obtain ⟨A, c, rfl, I4, n4⟩ := ints_of_row q4 (upto_length _ _ _ _)
      have K4 : Turns nobody w w4 := Turns.step K k4 (fun i hi => .inr (by have e : i = w1.heap.size := hi; omega))
      rw [Int.zero_add] at R4
      clear q4
      go_wp2_with fail
      refine (put_full R4.blk (by omega) (by omega) 1 (by omega) (by omega)).mono ?_
      rintro e w5 ⟨rfl, k5⟩
      have R5 := R4.still k5
      have I5 := I4.still k5
      have s4 := k4.size
      have s5 := k5.size
      have nA : Hid (∀ a, A = some a → ¬ a.block = w1.heap.size ∧ ¬ a.block = w5.heap.size) := hide fun a ha => by
        have h1 := n4 a ha
        obtain ⟨b1, o1, rfl, hb1, _⟩ := I5 0 _ (upto_get N f 0 (show 0 < N by omega))
        injection ha with ha
        subst ha
        simp only at h1 ⊢
        exact ⟨by omega, by omega⟩
      have K5 := K4.trans k5
      clear R R4 I4 n4 k4 K K4
      have hmk' := hmk.out
      have hS := seen_made w5 N f
      have kS : Turns nobody w5 (w5.alloc (.cells (madeCells #[.bool false] N) 4)) := (by repeat' (first | exact Turns.refl _ _ | assumption | exact Or.inl rfl | exact Or.inr (Nat.le_refl _) | apply Turns.alloc | apply Turns.drew | apply Turns.drewN | apply Turns.setCell | (apply Or.inr; simp; done) | (apply Or.inr; simp; omega) | exact fun _ hh => False.elim hh | exact fun _ hh => Or.inl hh | (intro i hi; right; (try simp only at hi); omega) | (intro i hi; right; simp at hi; omega) | refine Turns.step ?_ (by assumption) ?_))
      have R6 : RG (w5.alloc (.cells (madeCells #[.bool false] N) 4)) w1.heap.size N ((f + (0 : Nat)) % N) ((N : Int) - (0 : Nat)) := by
        rw [show (f + ((0 : Nat) : Int)) % N = f from by rw [show f + ((0 : Nat) : Int) = f from by omega]; exact Int.emod_eq_of_lt f0.1 f0.2]
        simpa using R5.still kS
      have I6 := I5.still kS
      have K6 := K5.trans kS
      have l5 := R5.lt
      generalize madeCells #[Value.bool false] N = MC at *
      clear R5 I5 K5 kS k5
      go_wp2_with fail
      go_loopw [15] (fun i wr => ∃ j : Nat, j ≤ N ∧ i = .int .i64 j ∧ IntsAt wr A (upto N f 0 N) ∧ SeenAt wr w5.heap.size N f j ∧ RG wr w1.heap.size N ((f + j) % N) ((N : Int) - j) ∧ Turns nobody w wr) (fun i _ => N - (intOf i).toNat)
      case atStart => exact ⟨0, Nat.zero_le _, rfl, I6, hS, R6, K6⟩
      case round =>
        clear I6 hS R6 K6 hmk'
        obtain ⟨j, hj, rfl, I, Se, R, K⟩ := hrel
        by_cases hlj : j < N
        · have rf := R.f0
          obtain ⟨p, ep⟩ : ∃ p : Nat, (f + (j : Int)) % N = p := ⟨((f + (j : Int)) % N).toNat, by omega⟩
          have hp : p < N := by omega
          have I' := hide I
          have Se' := hide Se
          have R' := hide R
          rw [ep] at R
          clear I Se
          go_wp2_with fail
          refine (take_ok R (by omega)).mono ?_
          rintro e w6 ⟨rfl, R6, k6⟩
          have Ix := I'.out.turns k6 (fun a ha => (nA.out a ha).1)
          have Sx := Se'.out.turns k6 (by omega)
          have K6 : Turns nobody w w6 := Turns.step K k6 (fun i hi => .inr (by have e : i = w1.heap.size := hi; omega))
          obtain ⟨b1, o1, rfl, hb1, c1⟩ := Ix j _ (upto_get N f 0 hlj)
          have ePl : placeOf N f 0 j = p := by unfold placeOf; rw [Int.add_zero]; exact ep
          rw [ePl] at c1
          obtain ⟨ls, cs, fs, S7⟩ := Sx.cell hlj hp ep
          have kk : Turns (· = w5.heap.size) w6 (w6.setCell ⟨w5.heap.size, p, none⟩ (.bool true)) := (by repeat' (first | exact Turns.refl _ _ | assumption | exact Or.inl rfl | exact Or.inr (Nat.le_refl _) | apply Turns.alloc | apply Turns.drew | apply Turns.drewN | apply Turns.setCell | (apply Or.inr; simp; done) | (apply Or.inr; simp; omega) | exact fun _ hh => False.elim hh | exact fun _ hh => Or.inl hh | (intro i hi; right; (try simp only at hi); omega) | (intro i hi; right; simp at hi; omega) | refine Turns.step ?_ (by assumption) ?_))
          have R7 : RG w6 w1.heap.size N ((f + ((j + 1 : Nat) : Int)) % N) ((N : Int) - ((j + 1 : Nat) : Int)) := by
            have e1 : ((p : Int) + 1) % N = (f + ((j + 1 : Nat) : Int)) % N := by rw [← ep, Int.emod_add_emod, Int.add_assoc]; rfl
            rw [e1] at R6
            have e2 : (N : Int) - j - 1 = (N : Int) - ((j + 1 : Nat) : Int) := by omega
            rw [e2] at R6
            exact R6
          have Q7 := hide (And.intro (Ix.turns kk (fun a ha => (nA.out a ha).2)) (And.intro S7 (And.intro (R7.turns kk (by omega)) (Turns.step K6 kk (fun i hi => .inr (by have e : i = w5.heap.size := hi; have := K.size; omega))))))
          have i0' : (0 : Int) ≤ (j : Int) := by omega
          have i1' : (j : Int) < (N : Int) := by omega
          have i2' : (0 : Int) ≤ (p : Int) := by omega
          have i3' : (p : Int) < (N : Int) := by omega
          replace ep := hide ep
          replace ePl := hide ePl
          clear R6 R7 S7 Ix Sx kk R K6
          go_wp2_with fail
          go_roundw
          case rel => exact ⟨j + 1, by omega, by go_num, Q7.out⟩
          case measure => simp [intOf]; omega
        · obtain rfl : j = N := by omega
          have R' : RG wr w1.heap.size j ((f + (j : Int)) % j) 0 := by simpa using R
          go_wp2_with fail
          refine (take_none R').mono ?_
          rintro e w6 ⟨rfl, k6⟩
          obtain ⟨b1, o1, rfl, hb1, c1⟩ := (I.still k6) 0 _ (upto_get j f 0 (show 0 < j by omega))
          rw [placeOf_first f0, Nat.add_zero] at c1
          have i1' : (0 : Int) < (j : Int) := by omega
          go_wp2_with fail
          go_quiet (fail)
          go_wp2_with fail
          go_returns
          exact ⟨rfl, Turns.none_below ((K.trans k6).drewN _)⟩

end Go.Proofs.Ytefgcdpceeeeaaa
