/- The walk of the law 'RingPeeks'. -/
import Derived.Test.YtefgcdpceeeeaaaRounds
set_option linter.unusedVariables false
namespace Go.Proofs.Ytefgcdpceeeeaaa
open Go.RowKit Go.Proofs.YtefgcdpceeeeaaaW.PrintWords

theorem ints_of_q {w : World} {base : Nat} {A : Option Addr} {c : Nat} {xs : List Int} (h : QRow w base 3 1 (.slice A xs.length c) xs.length (xs.map (Value.int .i64))) : IntsAt w A xs := by
  intro j x hj
  have hjl := (List.getElem?_eq_some_iff.1 hj).1
  obtain ⟨g, o, c', hv, _, _, hg, hc⟩ := q_form h (by omega)
  injection hv with hA _ _
  exact ⟨g, o, hA, hg, hc j _ (by rw [List.getElem?_map, hj]; rfl)⟩
theorem placeOf_swap (s f : Int) (q : Nat) : placeOf s f q 0 = placeOf s f 0 q := by
  unfold placeOf
  rw [show f + (q : Int) + ((0 : Nat) : Int) = f + 0 + q from by omega]
theorem upto_get (s f i : Int) {k n : Nat} (h : k < n) : (upto s f i n)[k]? = some (placeOf s f i k) := by simp [upto, h]

set_option maxHeartbeats 1000000 in
set_option maxRecDepth 100000 in
theorem ringPeeks_walk (x y z : Int) (w : World) (wx : (Lit.int .u8 x).wf = true) (wy : (Lit.int .u8 y).wf = true) (wz : (Lit.int .u8 z).wf = true) :
    Calls Try.prog 5 #[.int .u8 x, .int .u8 y, .int .u8 z] w fun e w' => e = .returned (.bool true) ∧ Below w.heap.size w w' := by
  have bx := bounds_u8 wx
  have by' := bounds_u8 wy
  have bz := bounds_u8 wz
  obtain ⟨i0, hi, hz0, hz1, hz2⟩ := info_parts Try.info3
  obtain ⟨N, hN⟩ : ∃ N : Int, N = 2 + x % 63 := ⟨_, rfl⟩
  obtain ⟨P, hP⟩ : ∃ P : Nat, (P : Int) = y % N := ⟨(y % N).toNat, by have := Int.emod_nonneg y (show N ≠ 0 by omega); omega⟩
  obtain ⟨Z, rfl⟩ : ∃ Z : Nat, z = Z := ⟨z.toNat, by omega⟩
  have n0 : 2 ≤ N := by omega
  have n1 : N ≤ 64 := by omega
  have p1 : (P : Int) < N := by rw [hP]; exact Int.emod_lt_of_pos y (by omega)
  have t1 : Int.tmod x 63 = N - 2 := by rw [Int.tmod_eq_emod_of_nonneg bx.1]; omega
  have t2 : Int.tmod y N = P := by rw [Int.tmod_eq_emod_of_nonneg by'.1]; exact hP.symm
  have x1 : x % 63 = N - 2 := by omega
  have x2 : y % N = P := hP.symm
  have x3 : 2 + (N - 2) = N := by omega
  have hn0 : ¬ N = 0 := by omega
  have w1' : IntKind.i64.wrap y = y := IntWalk.i64_in _ ⟨by omega, by omega⟩
  have w2' : IntKind.i64.wrap (Z : Int) = Z := IntWalk.i64_in _ ⟨by omega, by omega⟩
  clear hN hP wx wy wz
  go_enter Try.func5, Try.ntmps5
  go_wp2_with fail
  refine (shown_at _).mono ?_
  rintro e w1 ⟨rfl, k1⟩
  go_wp2_with fail
  refine (new_ok N _ n0 n1).mono ?_
  rintro e w2 ⟨rfl, R0, k2⟩
  have K2 : Turns nobody w w2 := (by repeat' (first | exact Turns.refl _ _ | assumption | exact Or.inl rfl | exact Or.inr (Nat.le_refl _) | apply Turns.alloc | apply Turns.drew | apply Turns.drewN | apply Turns.setCell | (apply Or.inr; simp; done) | (apply Or.inr; simp; omega) | exact fun _ hh => False.elim hh | exact fun _ hh => Or.inl hh | (intro i hi; right; (try simp only at hi); omega) | (intro i hi; right; simp at hi; omega) | refine Turns.step ?_ (by assumption) ?_))
  have l1 := k1.size
  have R0 : RG w2 w1.heap.size N (((0 : Nat) : Int) % N) 0 := by
    rw [show ((0 : Nat) : Int) % N = 0 from by simp]; exact R0
  go_wp2_with fail
  go_loopw [11] (fun i wr => ∃ k : Nat, k ≤ Z ∧ i = .int .i64 k ∧ RG wr w1.heap.size N ((k : Int) % N) 0 ∧ Turns nobody w wr) (fun i _ => Z - (intOf i).toNat)
  case atStart => exact ⟨0, Nat.zero_le _, rfl, R0, K2⟩
  case round =>
    clear R0 K2
    obtain ⟨k, hk, rfl, R, K⟩ := hrel
    have f0 := R.f0
    by_cases hlt : k < Z
    · skip
      go_wp2_with fail
      refine (put_ok R 1 (by omega) (by omega)).mono ?_
      rintro e w4 ⟨v, rfl, q4, R4, k4⟩
      go_wp2_with fail
      refine (take_ok R4 (by omega)).mono ?_
      rintro e w5 ⟨rfl, R5, k5⟩
      have K5 : Turns nobody w w5 := Turns.step (Turns.step K k4 (fun i hi => .inr (by have e : i = w1.heap.size := hi; omega))) k5 (fun i hi => .inr (by have e : i = w1.heap.size := hi; omega))
      have R5 : RG w5 w1.heap.size N (((k + 1 : Nat) : Int) % N) 0 := by
        have e1 : ((k : Int) % N + 1) % N = ((k + 1 : Nat) : Int) % N := by rw [Int.emod_add_emod]; simp
        rw [e1] at R5
        exact R5
      go_wp2_with fail
      go_roundw
      case rel => exact ⟨k + 1, by omega, by go_num, R5, K5⟩
      case measure => simp [intOf]; omega
    · obtain rfl : k = Z := by omega
      obtain ⟨f, hf⟩ : ∃ f, f = (k : Int) % N := ⟨_, rfl⟩
      rw [← hf] at R f0
      clear hf
      go_wp2_with fail
      rw [show (1 : Int) + P = ((P + 1 : Nat) : Int) from by omega]
      refine (put_ok R (P + 1) (by omega) (by omega)).mono ?_
      rintro e w4 ⟨v, rfl, _, R4, k4⟩
      have K4 : Turns nobody w w4 := Turns.step K k4 (fun i hi => .inr (by have e : i = w1.heap.size := hi; omega))
      rw [Int.zero_add] at R4
      have q0 : QRow w4 w.heap.size 3 1 (.slice none 0 0) 0 ((upto N f 0 0).map (Value.int .i64)) := q_of_own (World.ownsRow_nil _ _ _ _)
      clear R K
      go_wp2_with fail
      go_loopw [12, 13] (fun s i wr => ∃ q : Nat, q ≤ P + 1 ∧ i = .int .i64 q ∧ QRow wr w.heap.size 3 1 s q ((upto N f 0 q).map (Value.int .i64)) ∧ RG wr w1.heap.size N f ((P + 1 : Nat) : Int) ∧ Turns nobody w wr) (fun _ i _ => P + 1 - (intOf i).toNat)
      case atStart => exact ⟨0, Nat.zero_le _, rfl, q0, R4, K4⟩
      case round =>
        clear q0 R4 K4
        obtain ⟨q, hq, rfl, Q, R, K⟩ := hrel
        by_cases hlq : q < P + 1
        · skip
          go_wp2_with fail
          refine (used_at R.blk).mono ?_
          rintro e w5 ⟨rfl, k5⟩
          have R5 := R.still k5
          go_wp2_with fail
          refine (peek_ok R5 q (by omega) (by omega)).mono ?_
          rintro e w6 ⟨rfl, k6⟩
          rw [placeOf_swap]
          have K6 : Turns nobody w w6 := (by repeat' (first | exact Turns.refl _ _ | assumption | exact Or.inl rfl | exact Or.inr (Nat.le_refl _) | apply Turns.alloc | apply Turns.drew | apply Turns.drewN | apply Turns.setCell | (apply Or.inr; simp; done) | (apply Or.inr; simp; omega) | exact fun _ hh => False.elim hh | exact fun _ hh => Or.inl hh | (intro i hi; right; (try simp only at hi); omega) | (intro i hi; right; simp at hi; omega) | refine Turns.step ?_ (by assumption) ?_))
          have k56 : Turns nobody wr w6 := k5.trans k6
          have R6 := R5.still k6
          obtain ⟨A', c', rfl, hnc⟩ := q_slice Q
          go_wp2_with (at_builtin; refine wpList_q_append rfl (.tmp 72) (.tmp 74) 28 rfl w.heap.size 3 i0 (.int .i64 0) 1 8 Try.underlying28 hi hz0 hz1 hz2 rfl (by decide) (.slice A' q c') q ((upto N f 0 q).map (Value.int .i64)) rfl ?own ⟨w6.heap.size, 0, none⟩ 1 1 [.int .i64 (placeOf N f 0 q)] rfl rfl ?news ?one (by decide) ?b1 ?b2 ?bb ?next)
          case own => exact qrow_turns Q (k56.alloc _) (fun _ _ hh => hh.elim)
          case news => exact fun j u hj => World.news_of_block (w := _) (fr := (0, 0)) (Blk.new w6 #[.int .i64 (placeOf N f 0 q)] 3) j u (by simpa using hj)
          case one => intro u hu; simp at hu; subst hu; rfl
          case b1 => unfold maxLen; omega
          case b2 => omega
          case bb => have := K6.size; simp; omega
          case next =>
            intro g off cap1 w7 hq7 hg7 hat
            have K7 : Turns nobody w w7 := Turns.step (K6.alloc _) (Turns.of_grown hg7) (fun i hi => .inr (q_typed Q i hi).1)
            have R7 : RG w7 w1.heap.size N f ((P + 1 : Nat) : Int) := by
              refine RG.turns ⟨R6.blk.alloc _, R6.s0, R6.f0, R6.u0⟩ (Turns.of_grown hg7) (fun hh => ?_)
              obtain ⟨_, cells, hc⟩ := q_typed Q _ hh
              exact ne_of_types hc R.blk (by decide) rfl
            go_wp2_with fail
            go_roundw
            case rel => exact ⟨q + 1, by omega, by go_num, by rw [upto_succ, List.map_append]; exact hq7, R7, K7⟩
            case measure => simp [intOf]; omega
        · obtain rfl : q = P + 1 := by omega
          go_wp2_with fail
          refine (used_at R.blk).mono ?_
          rintro e w5 ⟨rfl, k5⟩
          have R5 := R.still k5
          obtain ⟨A', c', rfl, hnc⟩ := q_slice Q
          have Q5 := qrow_turns Q k5 (fun _ _ hh => hh.elim)
          have K5 : Turns nobody w w5 := K.trans k5
          have nb : ∀ a, A' = some a → ¬ a.block = w1.heap.size := fun a ha e => by
            obtain ⟨_, cells, hc⟩ := q_typed Q a.block (by simp [Value.ownBlock, ha])
            exact ne_of_types hc R.blk (by decide) e
          have I5 : IntsAt w5 A' (upto N f 0 (P + 1)) := ints_of_q (c := c') (by rw [upto_length]; exact Q5)
          replace nb := hide nb
          have R5 : RG w5 w1.heap.size N ((f + (0 : Nat)) % N) (((P + 1 : Nat) : Int) - (0 : Nat)) := by
            rw [show (f + ((0 : Nat) : Int)) % N = f from by rw [show f + ((0 : Nat) : Int) = f from by omega]; exact Int.emod_eq_of_lt f0.1 f0.2]
            simpa using R5
          clear Q Q5 R K
          go_wp2_with fail
          go_loopw [16] (fun i wr => ∃ j : Nat, j ≤ P + 1 ∧ i = .int .i64 j ∧ IntsAt wr A' (upto N f 0 (P + 1)) ∧ RG wr w1.heap.size N ((f + j) % N) (((P + 1 : Nat) : Int) - j) ∧ Turns nobody w wr) (fun i _ => P + 1 - (intOf i).toNat)
          case atStart => exact ⟨0, Nat.zero_le _, rfl, I5, R5, K5⟩
          case round =>
            clear I5 R5 K5
            obtain ⟨j, hj, rfl, I, R, K⟩ := hrel
            by_cases hlj : j < P + 1
            · skip
              go_wp2_with fail
              refine (take_ok R (by omega)).mono ?_
              rintro e w6 ⟨rfl, R6, k6⟩
              have I6 := I.turns k6 nb.out
              have K6 : Turns nobody w w6 := Turns.step K k6 (fun i hi => .inr (by have e : i = w1.heap.size := hi; omega))
              obtain ⟨b1, o1, rfl, hb1, c1⟩ := I6 j _ (upto_get N f 0 hlj)
              have i0' : (0 : Int) ≤ (j : Int) := by omega
              have i1' : (j : Int) < ((P : Int) + 1) := by omega
              have ep : placeOf N f 0 j = (f + j) % N := by unfold placeOf; rw [Int.add_zero]
              have R7 : RG w6 w1.heap.size N ((f + ((j + 1 : Nat) : Int)) % N) (((P + 1 : Nat) : Int) - ((j + 1 : Nat) : Int)) := by
                have e1 : ((f + (j : Int)) % N + 1) % N = (f + ((j + 1 : Nat) : Int)) % N := by rw [Int.emod_add_emod, Int.add_assoc]; rfl
                rw [e1] at R6
                have e2 : ((P + 1 : Nat) : Int) - j - 1 = ((P + 1 : Nat) : Int) - ((j + 1 : Nat) : Int) := by omega
                rw [e2] at R6
                exact R6
              rw [ep] at c1
              clear R6 ep
              go_wp2_with fail
              go_roundw
              case rel => exact ⟨j + 1, by omega, by go_num, I6, R7, K6⟩
              case measure => simp [intOf]; omega
            · obtain rfl : j = P + 1 := by omega
              have R' : RG wr w1.heap.size N ((f + ((P + 1 : Nat) : Int)) % N) 0 := by simpa using R
              have e9 : (1 : Int) + P = P + 1 := by omega
              go_wp2_with fail
              refine (peek_none R' 0 (by omega)).mono ?_
              rintro e w6 ⟨rfl, k6⟩
              go_wp2_with fail
              go_returns
              exact ⟨rfl, Turns.none_below (by repeat' (first | exact Turns.refl _ _ | assumption | exact Or.inl rfl | exact Or.inr (Nat.le_refl _) | apply Turns.alloc | apply Turns.drew | apply Turns.drewN | apply Turns.setCell | (apply Or.inr; simp; done) | (apply Or.inr; simp; omega) | exact fun _ hh => False.elim hh | exact fun _ hh => Or.inl hh | (intro i hi; right; (try simp only at hi); omega) | (intro i hi; right; simp at hi; omega) | refine Turns.step ?_ (by assumption) ?_))⟩

end Go.Proofs.Ytefgcdpceeeeaaa
