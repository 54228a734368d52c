/- The walk of the law 'RingTurns'. -/
import Derived.Test.YtefgcdpceeeeaaaPeeks
set_option linter.unusedVariables false
namespace Go.Proofs.Ytefgcdpceeeeaaa
open Go.RowKit Go.Proofs.YtefgcdpceeeeaaaW.PrintWords

/-- p is the place behind l; l = -1: none was put yet, and p is the first. -/
def Nx (N l p : Int) : Prop := (l = -1 ∧ p = 0) ∨ (0 ≤ l ∧ l < N ∧ nextOf N l = p)
theorem upto_tail (s f : Int) (n : Nat) : (upto s f 0 (n + 1)).drop 1 = upto s ((f + 1) % s) 0 n := by
  unfold upto
  apply List.ext_getElem
  · simp
  · intro i h1 h2
    simp [placeOf]
    congr 1
    omega


set_option maxHeartbeats 4000000 in
set_option maxRecDepth 100000 in
theorem ringTurns_walk (x : Int) (A : Option Addr) (len cap : Nat) (w : World) {n : Nat} (wx : (Lit.int .u8 x).wf = true) (hf : Fits Try.prog w n 22 [.slice A len cap]) :
    Calls Try.prog 3 #[.int .u8 x, .slice A len cap] w fun e w' => e = .returned (.bool true) ∧ Below w.heap.size w w' := by
  have bx := bounds_u8 wx
  obtain ⟨bs, rfl, hr, hB, hlc, hcm⟩ := open_bytes hf Try.underlying22 Try.underlying5 (by kernel_rfl)
  unfold maxLen at hcm
  obtain ⟨i0, hi, hz0, hz1, hz2⟩ := info_parts Try.info3
  obtain ⟨N, hN⟩ : ∃ N : Int, N = 2 + x % 63 := ⟨_, rfl⟩
  have n0 : 2 ≤ N := by omega
  have n1 : N ≤ 64 := by omega
  have t1 : Int.tmod x 63 = N - 2 := by rw [Int.tmod_eq_emod_of_nonneg bx.1]; omega
  have x1 : x % 63 = N - 2 := by omega
  have x3 : 2 + (N - 2) = N := by omega
  clear hN wx hf
  replace hr := hide hr
  replace hB := hide hB
  go_enter Try.func3, Try.ntmps3
  go_wp2_with fail
  refine (shown_at _).mono ?_
  rintro e w1 ⟨rfl, k1⟩
  go_wp2_with fail
  refine (new_ok N _ n0 n1).mono ?_
  rintro e w2 ⟨rfl, R0, k2⟩
  have K2 : Turns nobody w w2 := (by repeat' (first | exact Turns.refl _ _ | assumption | exact Or.inl rfl | exact Or.inr (Nat.le_refl _) | apply Turns.alloc | apply Turns.drew | apply Turns.drewN | apply Turns.setCell | (apply Or.inr; simp; done) | (apply Or.inr; simp; omega) | exact fun _ hh => False.elim hh | exact fun _ hh => Or.inl hh | (intro i hi; right; (try simp only at hi); omega) | (intro i hi; right; simp at hi; omega) | refine Turns.step ?_ (by assumption) ?_))
  have l1 := k1.size
  have q00 : QRow w2 w.heap.size 3 1 (.slice none 0 0) 0 ((upto N 0 0 0).map (Value.int .i64)) := q_of_own (World.ownsRow_nil _ _ _ _)
  have nx00 : Hid (Nx N (-1) ((0 + ((0 : Nat) : Int)) % N)) := hide (.inl ⟨rfl, by simp⟩)
  go_wp2_with fail
  go_loopw [8, 9, 10] (fun L s i wr => ∃ (k U : Nat) (f l : Int), k ≤ bs.length ∧ k ≤ 300 ∧ i = .int .i64 k ∧ L = .int .i64 l ∧ Hid (Nx N l ((f + (U : Int)) % N)) ∧ QRow wr w.heap.size 3 1 s U ((upto N f 0 U).map (Value.int .i64)) ∧ RG wr w1.heap.size N f (U : Int) ∧ Turns nobody w wr) (fun _ _ i _ => bs.length - (intOf i).toNat)
  case atStart => exact ⟨0, 0, 0, -1, Nat.zero_le _, Nat.zero_le _, rfl, rfl, nx00, q00, R0, K2⟩
  case round =>
    clear nx00 q00 R0 K2
    obtain ⟨k, U, f, l, hk, hk3, rfl, rfl, hnx, Q, R, K⟩ := hrel
    have f0 := R.f0
    have u0 := R.u0
    by_cases hlk : k < bs.length
    · by_cases hl3 : k < 300
      · obtain ⟨b3, o3, rfl, hb3, hc3⟩ := hr.out.cells (by omega)
        have c4w := hc3 k hlk
        obtain ⟨d, hd⟩ : ∃ d, bs.getD k 0 = d := ⟨_, rfl⟩
        have hdb : 0 ≤ d ∧ d ≤ 255 := by
          have : d ∈ bs := by rw [← hd]; simp [List.getD, hlk]
          exact hB.out d this
        rw [hd] at c4w
        clear hc3 hd
        have c4 := (K.none_below.cell (by exact hb3)).trans c4w
        have lb3 : b3 < wr.heap.size := by have := K.size; omega
        replace c4w := hide c4w
        have i0' : (0 : Int) ≤ (k : Int) := by omega
        have i1' : (k : Int) < (bs.length : Int) := by omega
        have i2' : (k : Int) < 300 := by omega
        by_cases hd7 : 127 < d
        · cases U with
          | zero =>
            have R' : RG wr w1.heap.size N f 0 := by simpa using R
            have hQ := hide Q
            obtain ⟨A', c', rfl, hnc⟩ := q_slice Q
            clear Q
            go_wp2_with fail
            refine (take_none R').mono ?_
            rintro e w4 ⟨rfl, k4⟩
            go_wp2_with fail
            go_roundw
            case rel => exact ⟨k + 1, 0, f, l, by omega, by omega, by go_num, rfl, hnx, qrow_turns hQ.out k4 (fun _ _ hh => hh.elim), R.still k4, K.trans k4⟩
            case measure => simp [intOf]; omega
          | succ U =>
            have hQ := hide Q
            obtain ⟨g, o, c', rfl, hnc, hbg, hgl, hc⟩ := q_form Q (by omega)
            have nb : g ≠ w1.heap.size := by
              obtain ⟨_, cells, hc⟩ := q_typed Q g rfl
              exact ne_of_types hc R.blk (by decide)
            have cf := hc 0 (.int .i64 f) (by rw [List.getElem?_map, upto_get N f 0 (Nat.succ_pos U)]; simp [placeOf_first f0])
            rw [Nat.add_zero] at cf
            clear hc Q
            go_wp2_with fail
            refine (take_ok R (by omega)).mono ?_
            rintro e w4 ⟨rfl, R4, k4⟩
            have Q4 : QRow w4 w.heap.size 3 1 (.slice (some ⟨g, o, none⟩) (U + 1) c') (U + 1) ((upto N f 0 (U + 1)).map (Value.int .i64)) := qrow_turns hQ.out k4 (fun g' hg' e => by injection hg' with hg'; exact nb (hg'.trans e))
            have hdr := q_drop (k := 1) Q4 (by omega)
            have hcut := cut_from (P := Try.prog) 28 3 .i64 Try.underlying28 hi 1 hz1 (some ⟨g, o, none⟩) (U + 1) c' 1 (by decide) (by omega)
            obtain ⟨A', hA'⟩ : ∃ A', (if c' = 1 then some (⟨g, o, none⟩ : Addr) else (some (⟨g, o, none⟩ : Addr)).map (fun x : Addr => x.add (1 * 1))) = A' := ⟨_, rfl⟩
            simp only [show (1 : Int).toNat = 1 from rfl] at hcut
            rw [hA'] at hcut hdr
            rw [Nat.add_sub_cancel] at hcut hdr
            rw [Nat.one_mul, ← List.map_drop, upto_tail] at hdr
            have c5 : w4.cell? ⟨g, o, none⟩ = some (.int .i64 f) := (World.cell?_of_block (k4.block g hgl nb)).trans cf
            have R5 : RG w4 w1.heap.size N ((f + 1) % N) (U : Int) := by
              have e : ((U + 1 : Nat) : Int) - 1 = (U : Int) := by omega
              rw [e] at R4
              exact R4
            have hnx5 : Hid (Nx N l (((f + 1) % N + (U : Int)) % N)) := by
              have e : (f + ((U + 1 : Nat) : Int)) % N = ((f + 1) % N + (U : Int)) % N := by rw [Int.emod_add_emod]; congr 1; omega
              rw [e] at hnx
              exact hnx
            have K5 : Turns nobody w w4 := Turns.step K k4 (fun i hi => .inr (by have e : i = w1.heap.size := hi; omega))
            have i3' : (0 : Int) < (U : Int) + 1 := by omega
            replace hdr := hide hdr
            replace hA' := hide hA'
            have nb' := hide nb
            clear Q4 cf nb R4 hnx hQ
            go_wp2_with fail
            go_roundw
            case rel => exact ⟨k + 1, U, (f + 1) % N, l, by omega, by omega, by go_num, rfl, hnx5, hdr.out, R5, K5⟩
            case measure => simp [intOf]; omega
        · obtain ⟨M, eM, M1, M2⟩ : ∃ M : Nat, 1 + d % 5 = (M : Int) ∧ 1 ≤ M ∧ M ≤ 5 := ⟨(1 + d % 5).toNat, by omega, by omega, by omega⟩
          have rl := R.lt
          by_cases hfit : (U : Int) + M ≤ N
          · skip
            go_wp2_with fail
            refine (put_ok R M M1 hfit).mono ?_
            rintro e w6 ⟨v, rfl, q4, R6, k6⟩
            obtain ⟨A2, c9, rfl, I6, n4⟩ := ints_of_row q4 (upto_length _ _ _ _)
            have K6 : Turns nobody w w6 := Turns.step K k6 (fun i hi => .inr (by have e : i = w1.heap.size := hi; omega))
            have Q6 := qrow_turns Q k6 (fun g' hg' e => by obtain ⟨_, cells, hc⟩ := q_typed Q g' hg'; exact ne_of_types hc R.blk (by decide) e)
            have nB6 : ∀ a, A2 = some a → u9.ownBlock ≠ some a.block ∧ a.block < w6.heap.size := by
              intro a ha
              have h1 := n4 a ha
              obtain ⟨b1, o1, rfl, hb1, _⟩ := I6 0 _ (upto_get N f U (show 0 < M by omega))
              injection ha with ha
              subst ha
              exact ⟨fun hh => by have := q_lt Q _ hh; simp only at this h1; omega, hb1⟩
            rw [show (U : Int) + (M : Int) = ((U + M : Nat) : Int) by omega] at R6
            have hnx := hnx.out
            have c46 := (K6.none_below.cell (by exact hb3)).trans c4w.out
            have lb6 : b3 < w6.heap.size := by have := K6.size; omega
            clear q4 R Q K n4 k6 c4
            have q0 : QRow w6 w.heap.size 3 1 u9 (U + 0) ((upto N f 0 (U + 0)).map (Value.int .i64)) := Q6
            have nx0 : Nx N l ((f + ((U + 0 : Nat) : Int)) % N) := hnx
            clear Q6 hnx
            go_wp2_with fail
            go_loopw [8, 9, 15] (fun L s i wr => ∃ (j : Nat) (l : Int), j ≤ M ∧ i = .int .i64 j ∧ L = .int .i64 l ∧ Hid (Nx N l ((f + ((U + j : Nat) : Int)) % N)) ∧ QRow wr w.heap.size 3 1 s (U + j) ((upto N f 0 (U + j)).map (Value.int .i64)) ∧ (∀ a, A2 = some a → s.ownBlock ≠ some a.block ∧ a.block < wr.heap.size) ∧ IntsAt wr A2 (upto N f U M) ∧ RG wr w1.heap.size N f ((U + M : Nat) : Int) ∧ Turns nobody w wr) (fun _ _ i _ => M - (intOf i).toNat)
            case atStart => exact ⟨0, l, Nat.zero_le _, rfl, rfl, hide nx0, q0, nB6, I6, R6, K6⟩
            case round =>
              clear nx0 q0 nB6 I6 R6 K6
              obtain ⟨j, l, hj, rfl, rfl, hnx, Q, nB, I, R, K⟩ := hrel
              have sN := R.s0
              by_cases hlj : j < M
              · obtain ⟨p, ep⟩ : ∃ p, (f + ((U + j : Nat) : Int)) % N = p := ⟨_, rfl⟩
                have hp0 : 0 ≤ p := by rw [← ep]; exact Int.emod_nonneg _ (by omega)
                have hp1 : p < N := by rw [← ep]; exact Int.emod_lt_of_pos _ (by omega)
                rw [ep] at hnx
                obtain ⟨b2, o2, rfl, hb2, c2⟩ := I j _ (upto_get N f U hlj)
                have ePl : placeOf N f U j = p := by unfold placeOf; rw [← ep]; congr 1; omega
                rw [ePl] at c2
                have ePl2 : placeOf N f 0 (U + j) = p := by unfold placeOf; rw [← ep]; congr 1; omega
                have hnext : Nx N p ((f + ((U + (j + 1) : Nat) : Int)) % N) := by
                  refine .inr ⟨hp0, hp1, ?_⟩
                  rw [nextOf_first ⟨hp0, hp1⟩, ← ep, Int.emod_add_emod]
                  congr 1
                  omega
                have i0' : (0 : Int) ≤ (j : Int) := by omega
                have i1' : (j : Int) < (M : Int) := by omega
                have hR := hide R
                have hI := hide I
                have hQ := hide Q
                have nB1 := hide (nB _ rfl).1
                have nB2 := (nB _ rfl).2
                have hnext := hide hnext
                replace ep := hide ep
                replace ePl := hide ePl
                replace ePl2 := hide ePl2
                have qR := fun (p : Later wr) => hR.out.still p.h
                have qc := fun (p : Later wr) => Later.cell c2 p
                obtain ⟨A', c', rfl, hnc⟩ := q_slice Q
                clear R I Q nB
                have after : ∀ wq, Turns nobody wr wq → True := fun _ _ => trivial
                rcases hnx.out with ⟨hl, hp⟩ | ⟨hl0, hl1, hl2⟩
                · subst hl
                  subst hp
                  clear hnx
                  go_wp2_with fail
                  refine wp_region_later (by kernel_rfl) (by kernel_rfl) ?_
                  repeat (go_big_quiet_step (fail))
                  refine wpQuiet_nil ?_
                  rintro wq ⟨⟨wq', kq⟩, eq'⟩
                  obtain rfl : wq = wq' := eq'
                  clear qc qR
                  have c3 : wq.cell? ⟨b2, o2 + j, none⟩ = some (.int .i64 0) := (kq.none_below.cell (by exact hb2)).trans c2
                  have lq := kq.size
                  have lb2 : b2 < wq.heap.size := by omega
                  clear c2
                  go_wp2_with (at_builtin; refine wpList_q_append rfl (.tmp 126) (.tmp 131) 28 rfl w.heap.size 3 i0 (.int .i64 0) 1 8 Try.underlying28 hi hz0 hz1 hz2 rfl (by decide) (.slice A' (U + j) c') (U + j) ((upto N f 0 (U + j)).map (Value.int .i64)) rfl (qrow_turns hQ.out (kq.alloc _) (fun _ _ hh => hh.elim)) ⟨wq.heap.size, 0, none⟩ 1 1 [.int .i64 0] rfl rfl (fun j' u' hj' => World.news_of_block (w := _) (fr := (0, 0)) (Blk.new wq #[.int .i64 0] 3) j' u' (by simpa using hj')) (by intro u' hu'; simp at hu'; subst hu'; rfl) (by decide) (by unfold maxLen; omega) (by omega) (by have := K.size; simp; omega) ?_; intro g' off cap1 w7 hq7 hg7 hat)
                  have T7 : Turns (fun i => (Value.slice A' (U + j) c').ownBlock = some i) wr w7 := Turns.step ((kq.alloc _).mono (fun _ _ hh => hh.elim)) (Turns.of_grown hg7) (fun i hi => .inl hi)
                  have K7 : Turns nobody w w7 := Turns.step K T7 (fun i hi => .inr (q_typed hQ.out i hi).1)
                  have R7 := hR.out.turns T7 (fun hh => by obtain ⟨_, cells, hc⟩ := q_typed hQ.out _ hh; exact ne_of_types hc hR.out.blk (by decide) rfl)
                  have I7 := hI.out.turns T7 (fun a ha hh => by injection ha with ha; subst ha; exact nB1.out hh)
                  have s7 := T7.size
                  go_roundw
                  case rel =>
                    refine ⟨j + 1, 0, by omega, by go_num, rfl, hnext, ?_, ?_, I7, R7, K7⟩
                    · rw [← Nat.add_assoc, upto_succ, List.map_append, ePl2.out]
                      exact hq7
                    · rintro a ⟨⟩
                      refine ⟨?_, by simp only; omega⟩
                      rcases hat with hat | hat
                      · have := nB1.out
                        rw [hat] at this
                        exact this
                      · intro hh
                        simp [Value.ownBlock] at hh
                        simp at hat
                        omega
                  case measure => simp [intOf]; omega
                · have hl3 : ¬ (l < 0) := by omega
                  have hl4 : l ≤ 9223372036854775807 := by omega
                  have hd1 : decide (0 ≤ l) = true := by simpa using hl0
                  have hd2 : decide (l < 0) = false := by simpa using hl3
                  clear hnx hl3
                  replace hl2 := hide hl2
                  have qn := fun (q : Later wr) => (hl2.out ▸ next_at (qR q) l hl4 : Calls Try.prog 13 #[.pointer (some ⟨w1.heap.size, 0, none⟩), .int .i64 l] q.W fun e w' => e = .returned (.int .i64 p) ∧ Turns nobody q.W w')
                  replace qn := hide qn
                  go_wp2_with fail
                  refine wp_region_later (by kernel_rfl) (by kernel_rfl) ?_
                  repeat (go_big_quiet_step ((go_at_call 13; exact Later.calls (qn.out _))))
                  refine wpQuiet_nil ?_
                  rintro wq ⟨⟨wq', kq⟩, eq'⟩
                  obtain rfl : wq = wq' := eq'
                  clear qc qR
                  have c3 : wq.cell? ⟨b2, o2 + j, none⟩ = some (.int .i64 p) := (kq.none_below.cell (by exact hb2)).trans c2
                  have lq := kq.size
                  have lb2 : b2 < wq.heap.size := by omega
                  clear c2
                  go_wp2_with (at_builtin; refine wpList_q_append rfl (.tmp 126) (.tmp 131) 28 rfl w.heap.size 3 i0 (.int .i64 0) 1 8 Try.underlying28 hi hz0 hz1 hz2 rfl (by decide) (.slice A' (U + j) c') (U + j) ((upto N f 0 (U + j)).map (Value.int .i64)) rfl (qrow_turns hQ.out (kq.alloc _) (fun _ _ hh => hh.elim)) ⟨wq.heap.size, 0, none⟩ 1 1 [.int .i64 p] rfl rfl (fun j' u' hj' => World.news_of_block (w := _) (fr := (0, 0)) (Blk.new wq #[.int .i64 p] 3) j' u' (by simpa using hj')) (by intro u' hu'; simp at hu'; subst hu'; rfl) (by decide) (by unfold maxLen; omega) (by omega) (by have := K.size; simp; omega) ?_; intro g' off cap1 w7 hq7 hg7 hat)
                  have T7 : Turns (fun i => (Value.slice A' (U + j) c').ownBlock = some i) wr w7 := Turns.step ((kq.alloc _).mono (fun _ _ hh => hh.elim)) (Turns.of_grown hg7) (fun i hi => .inl hi)
                  have K7 : Turns nobody w w7 := Turns.step K T7 (fun i hi => .inr (q_typed hQ.out i hi).1)
                  have R7 := hR.out.turns T7 (fun hh => by obtain ⟨_, cells, hc⟩ := q_typed hQ.out _ hh; exact ne_of_types hc hR.out.blk (by decide) rfl)
                  have I7 := hI.out.turns T7 (fun a ha hh => by injection ha with ha; subst ha; exact nB1.out hh)
                  have s7 := T7.size
                  go_roundw
                  case rel =>
                    refine ⟨j + 1, p, by omega, by go_num, rfl, hnext, ?_, ?_, I7, R7, K7⟩
                    · rw [← Nat.add_assoc, upto_succ, List.map_append, ePl2.out]
                      exact hq7
                    · rintro a ⟨⟩
                      refine ⟨?_, by simp only; omega⟩
                      rcases hat with hat | hat
                      · have := nB1.out
                        rw [hat] at this
                        exact this
                      · intro hh
                        simp [Value.ownBlock] at hh
                        simp at hat
                        omega
                  case measure => simp [intOf]; omega
              · obtain rfl : j = M := by omega
                have hQ := hide Q
                obtain ⟨A', c', rfl, hnc⟩ := q_slice Q
                clear Q nB I
                go_wp2_with fail
                go_roundw
                case rel => exact ⟨k + 1, U + j, f, l, by omega, by omega, by go_num, rfl, hnx, hQ.out, R, K⟩
                case measure => simp [intOf]; omega
          · skip
            go_wp2_with fail
            refine (put_full R.blk (by omega) (by omega) M (by omega) (by omega)).mono ?_
            rintro e w6 ⟨rfl, k6⟩
            have R6 := R.still k6
            have K6 := K.trans k6
            have hQ := hide (qrow_turns Q k6 (fun _ _ hh => hh.elim))
            clear Q R K k6
            go_wp2_with fail
            go_loopw [8, 9, 15] (fun L s' i wr => L = .int .i64 l ∧ s' = u9 ∧ i = .int .i64 0 ∧ wr = w6) (fun _ _ _ _ => 0)
            case atStart => exact ⟨rfl, rfl, rfl, rfl⟩
            case round =>
              obtain ⟨rfl, rfl, rfl, rfl⟩ := hrel
              go_wp2_with fail
              go_roundw
              case rel => exact ⟨k + 1, U, f, l, by omega, by omega, by go_num, rfl, hnx, hQ.out, R6, K6⟩
              case measure => simp [intOf]; omega
      · obtain rfl : k = 300 := by omega
        have hQ := hide Q
        obtain ⟨A', c', rfl, hnc⟩ := q_slice Q
        have i1' : (300 : Int) < (bs.length : Int) := by omega
        clear Q
        go_wp2_with fail
        refine (used_at R.blk).mono ?_
        rintro e w4 ⟨rfl, k4⟩
        go_wp2_with fail
        go_returns
        exact ⟨rfl, Turns.none_below (K.trans k4)⟩
    · obtain rfl : k = bs.length := by omega
      have hQ := hide Q
      obtain ⟨A', c', rfl, hnc⟩ := q_slice Q
      clear Q
      go_wp2_with fail
      refine (used_at R.blk).mono ?_
      rintro e w4 ⟨rfl, k4⟩
      go_wp2_with fail
      go_returns
      exact ⟨rfl, Turns.none_below (K.trans k4)⟩

end Go.Proofs.Ytefgcdpceeeeaaa
