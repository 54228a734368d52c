/- The walk of the law 'QueueOnce'. -/
import Derived.Test.YtklicfagdpjhdaaLaws
set_option linter.unusedVariables false
namespace Go.Proofs.Ytklicfagdpjhdaa
open Go.RowKit Go.Proofs.YtklicfagdpjhdaaW.PrintWords

theorem QAt.refb {w : World} {base fb b : Nat} {v : Value} {room low high : Int} {above : Bool} (h : QAt w base fb b v room low high above []) (fb' : Nat) : QAt w base fb' b v room low high above [] := by
  obtain ⟨h1, h2, ⟨xs, h3, _⟩, h5, h6, h7⟩ := h
  exact ⟨h1, h2, ⟨xs, h3, fun i f hf => by simp at hf⟩, h5, h6, h7⟩

set_option maxHeartbeats 1000000 in
theorem queueOnce_walk (A : Option Addr) (len cap : Nat) (t : Int) (w : World) {n : Nat} (hf : Fits Try.prog w n 22 [.slice A len cap]) (wt : (Lit.int .u8 t).wf = true) :
    Calls Try.prog 3 #[.slice A len cap, .int .u8 t] w fun e w' => e = .returned (.bool true) ∧ Below w.heap.size w w' := by
  obtain ⟨bs, rfl, hr, hbs, hl, hm⟩ := open_bytes hf Try.underlying22 Try.underlying5 Try.cells5
  have bt := bounds_u8 wt
  unfold maxLen at hm
  clear hf wt
  by_cases h0 : bs.length = 0
  · have e0 : ((bs.length : Int) == 0) = true := by rw [h0]; rfl
    replace h0 := hide h0
    go_enter Try.func3, Try.ntmps3
    go_wp2_with fail
    refine (shown_at _).mono ?_
    rintro e w1 ⟨rfl, k1⟩
    go_wp2_with fail
    refine (new_ok 65536 0 0 _ 0 0 (by omega) (by omega) (by omega) (by omega) (by omega)).mono ?_
    rintro e w2 ⟨rfl, h1, k2⟩
    go_wp2_with fail
    go_returns
    exact ⟨rfl, Turns.none_below (by repeat' (first | exact Turns.refl _ _ | assumption | exact Or.inl rfl | exact Or.inr (Nat.le_refl _) | apply Turns.alloc | apply Turns.drew | apply Turns.drewN | apply Turns.setCell | (apply Or.inr; simp; done) | (apply Or.inr; simp; omega) | exact fun _ hh => False.elim hh | exact fun _ hh => Or.inl hh | (intro i hi; right; (try simp only at hi); omega) | (intro i hi; right; simp at hi; omega) | refine Turns.step ?_ (by assumption) ?_))⟩
  · have e0 : ((bs.length : Int) == 0) = false := beq_eq_false_iff_ne.2 (by omega)
    have hp : 0 < bs.length := by omega
    clear h0
    by_cases h1 : 1000 < bs.length
    · go_enter Try.func3, Try.ntmps3
      go_wp2_with fail
      refine (shown_at _).mono ?_
      rintro e w1 ⟨rfl, k1⟩
      go_wp2_with fail
      refine (new_ok 65536 0 0 _ 0 0 (by omega) (by omega) (by omega) (by omega) (by omega)).mono ?_
      rintro e w2 ⟨rfl, h1, k2⟩
      go_wp2_with fail
      go_returns
      exact ⟨rfl, Turns.none_below (by repeat' (first | exact Turns.refl _ _ | assumption | exact Or.inl rfl | exact Or.inr (Nat.le_refl _) | apply Turns.alloc | apply Turns.drew | apply Turns.drewN | apply Turns.setCell | (apply Or.inr; simp; done) | (apply Or.inr; simp; omega) | exact fun _ hh => False.elim hh | exact fun _ hh => Or.inl hh | (intro i hi; right; (try simp only at hi); omega) | (intro i hi; right; simp at hi; omega) | refine Turns.step ?_ (by assumption) ?_))⟩
    · have h2 : bs.length ≤ 1000 := by omega
      clear h1
      obtain ⟨i, hi, ei⟩ : ∃ i : Nat, i < bs.length ∧ t % (bs.length : Int) = i := by
        refine ⟨(t % bs.length).toNat, ?_, ?_⟩
        · have := Int.emod_lt_of_pos t (show (0 : Int) < bs.length by omega)
          have := Int.emod_nonneg t (show (bs.length : Int) ≠ 0 by omega)
          omega
        · have := Int.emod_nonneg t (show (bs.length : Int) ≠ 0 by omega)
          omega
      obtain ⟨i0, hi5, hz0, hz1, hz2⟩ := info_parts Try.info5
      obtain ⟨a, rfl, hnews⟩ := hr.news hp
      replace hnews := hide hnews
      replace hr := hide hr
      go_enter Try.func3, Try.ntmps3
      go_wp2_with fail
      refine (shown_at _).mono ?_
      rintro e w1 ⟨rfl, k1⟩
      go_wp2_with fail
      refine (new_ok 65536 0 0 _ w.heap.size 0 k1.size (by omega) (by omega) (by omega) (by omega)).mono ?_
      rintro e w2 ⟨rfl, h1, k2⟩
      have k12 := k1.trans k2
      go_wp2_with (at_builtin; refine wpList_q_append rfl (.tmp 38) (.tmp 39) 22 rfl w.heap.size 5 i0 (.int .u8 0) 1 1 Try.underlying22 hi5 hz0 hz1 hz2 rfl (by decide) (.slice (some ⟨w2.heap.size, 0, none⟩) 0 0) 0 [] rfl ?own a bs.length cap (byteCells bs) rfl ?len ?news (byteCells_one bs) hp ?b1 ?b2 ?bb ?next)
      case own => exact qrow_empty (by simpa using Blk.new w2 #[] 5) k12.size
      case len => simp [byteCells]
      case news =>
        intro j u hj
        have hc := hnews.out j u hj
        have K : Turns nobody w (w2.alloc (.cells #[] 5)) := (by repeat' (first | exact Turns.refl _ _ | assumption | exact Or.inl rfl | exact Or.inr (Nat.le_refl _) | apply Turns.alloc | apply Turns.drew | apply Turns.drewN | apply Turns.setCell | (apply Or.inr; simp; done) | (apply Or.inr; simp; omega) | exact fun _ hh => False.elim hh | exact fun _ hh => Or.inl hh | (intro i hi; right; (try simp only at hi); omega) | (intro i hi; right; simp at hi; omega) | refine Turns.step ?_ (by assumption) ?_))
        exact (K.none_below.cell (block_lt_of_cell hc)).trans hc
      case b1 => unfold maxLen; omega
      case b2 => omega
      case bb => have := k12.size; simp; omega
      case next =>
        intro g off cap1 w3 hq hg hat
        have k3 : Turns nobody w2 w3 := by
          refine Turns.step ((Turns.refl nobody w2).alloc (.cells #[] 5)) (Turns.of_grown hg) (fun i hi => .inr ?_)
          simp [Value.ownBlock] at hi
          omega
        have k13 := k12.trans k3
        have lg : g < w3.heap.size := q_lt hq g rfl
        have lg2 : w2.heap.size ≤ g := by
          rcases hat with hat | hat
          · simp [Value.ownBlock] at hat; omega
          · omega
        have lb := h1.blk.lt
        replace h1 := (h1.still k3).refb w3.heap.size
        clear hg hat
        obtain ⟨ad, had, hcells⟩ := q_cells hq hp
        injection had with had
        subst had
        replace hcells := hide hcells
        replace hq := hide hq
        have hput := put_ok h1 (Nat.le_refl _) k13.size ⟨g, off, none⟩ cap1 ⟨bs, 0, 0, 0⟩ hp (by rw [total_nil]; simp only; omega) hcells.out
        simp only at hput
        replace hput := hide hput
        go_wp2_with fail
        refine hput.out.mono ?_
        rintro e w4 ⟨rfl, ⟨v, h2', hv⟩, k4⟩
        have k14 := h1.step k13 k4 (fun _ hi => hi)
        have q4 : QRow w4 w.heap.size 5 1 (.slice (some ⟨g, off, none⟩) bs.length cap1) bs.length (byteCells bs) := by
          refine qrow_turns hq.out k4 (fun g' hg' hh => ?_)
          have e1 : g = g' := by simpa [Value.ownBlock] using hg'
          rcases hh with hh | hh
          · omega
          · simp [Value.ownBlock] at hh
        obtain ⟨ad, had, hc4⟩ := q_cells q4 hp
        injection had with had
        subst had
        have c4 := hc4 i _ (byteCells_get hi)
        rw [add_at] at c4
        obtain ⟨_, cells4, hg4⟩ := q_typed q4 g rfl
        have f4 : w4.frozen? ⟨g, off + i, none⟩ = false := frozen_of_row w4 g _ _ _ hg4
        have lt4 : g < w4.heap.size := q_lt q4 g rfl
        have hB := hide h2'.blk
        have i1 : (i : Int) < (bs.length : Int) := by omega
        have i2 : (0 : Int) ≤ (i : Int) := by omega
        replace q4 := hide q4
        clear hc4
        have hw1 : IntKind.i64.wrap t = t := IntWalk.i64_in _ ⟨by omega, by omega⟩
        have hw2 : t.tmod (bs.length : Int) = i := by rw [Int.tmod_eq_emod_of_nonneg bt.1]; exact ei
        have hw3 : IntKind.i64.wrap (i : Int) = i := IntWalk.i64_in _ ⟨by omega, by omega⟩
        go_wp2_with fail
        have hne : ¬ bs = [] := by rintro rfl; simp at hp
        go_still_tail 16, (by kernel_rfl)
        change wpList _ _ _ _ _ w4.drew
        go_wp2_with fail
        obtain ⟨w5, e5⟩ : ∃ w5, w5 = (w4.setCell ⟨g, off + i, none⟩ (.int .u8 ((bs[i] + 1) % 256))).drew := ⟨_, rfl⟩
        have k5 : Turns (· = g) w4 w5 := by rw [e5]; exact (by repeat' (first | exact Turns.refl _ _ | assumption | exact Or.inl rfl | exact Or.inr (Nat.le_refl _) | apply Turns.alloc | apply Turns.drew | apply Turns.drewN | apply Turns.setCell | (apply Or.inr; simp; done) | (apply Or.inr; simp; omega) | exact fun _ hh => False.elim hh | exact fun _ hh => Or.inl hh | (intro i hi; right; (try simp only at hi); omega) | (intro i hi; right; simp at hi; omega) | refine Turns.step ?_ (by assumption) ?_))
        rw [← e5]
        clear e5 hput hcells c4 f4
        have hbg : ¬ w1.heap.size = g := fun e => ne_of_types hg4 hB.out (by decide) e.symm
        have h5 := h2'.turns k5 hbg (fun g' hg' e => by
          obtain ⟨xs, r1, _⟩ := h2'.row
          obtain ⟨_, cells, hc⟩ := q_typed r1 g' hg'
          rw [e, hg4] at hc
          simp at hc) (fun g' cs hc hle e => by
          omega)
        have K5 : Turns (fun i => i = w1.heap.size ∨ i = g) w w5 := by
          refine Turns.step (k14.mono (fun _ _ hh => False.elim hh)) k5 (fun i hi => .inl (.inr hi))
        clear h2' hB cells4 hg4
        refine (take_some h5).mono ?_
        rintro e w6 ⟨X, k, rfl, q6, _, k6⟩
        have K6 := K5.step k6 (fun i hi => .inl (.inl hi))
        have r6 : ReadsB (w6.alloc (.cells #[.slice X bs.length k, .int .u64 0, .int .u32 0, .int .u32 0] 34)) X bs := (ReadsB.of_row q6).still ((Turns.refl nobody w6).alloc _)
        have r0 : ReadsB (w6.alloc (.cells #[.slice X bs.length k, .int .u64 0, .int .u32 0, .int .u32 0] 34)) (some a) bs := by
          refine hr.out.turns (K6.alloc _) (fun a' ha' hh => ?_)
          injection ha' with ha'
          subst ha'
          have := hnews.out
          have hc := this 0 _ (byteCells_get hp)
          have hc := block_lt_of_cell hc
          rw [show (a.add 0).block = a.block from rfl] at hc
          have := k1.size
          have := k12.size
          rcases hh with hh | hh <;> omega
        have s6 := r6.string (src := 22) (dst := 9) (e := 5) (c := k) Try.underlying22 Try.underlying5 Try.underlying9
        have s0 := r0.string (src := 22) (dst := 9) (e := 5) (c := cap) Try.underlying22 Try.underlying5 Try.underlying9
        have B0 := Blk.new w6 #[.slice X bs.length k, .int .u64 0, .int .u32 0, .int .u32 0] 34
        obtain ⟨lt0, p0, p1, p2, p3, g0, g1, g2, g3⟩ := B0.cells4
        clear r0 r6 q6
        simp only
        go_wp2_with fail
        go_returns
        exact ⟨rfl, Turns.none_below ((K6.alloc _).mono (fun i hi hh => by have := k1.size; have := k12.size; rcases hh with hh | hh <;> omega))⟩

end Go.Proofs.Ytklicfagdpjhdaa
