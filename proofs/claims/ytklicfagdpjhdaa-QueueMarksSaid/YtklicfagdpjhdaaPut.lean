/- What Put and Take do with a queue. -/
import Derived.Test.YtklicfagdpjhdaaLine
import Derived.StillTailTactics
set_option linter.unusedVariables false
namespace Go.Proofs.Ytklicfagdpjhdaa
open Go.RowKit Go.Proofs.YtklicfagdpjhdaaW.PrintWords

set_option maxHeartbeats 400000 in
theorem put_ok {w : World} {base fb b : Nat} {v : Value} {room low high : Int} {above : Bool} {fs : List Fr} (h : QAt w base fb b v room low high above fs) (hfb : fb ≤ w.heap.size) (hbase : base ≤ w.heap.size)
    (A : Addr) (cap : Nat) (f : Fr) (h0 : 0 < f.bs.length) (h1 : total fs + f.bs.length ≤ room) (hc : ∀ j u, (byteCells f.bs)[j]? = some u → w.cell? (A.add j) = some u) :
    Calls Try.prog 11 #[.pointer (some ⟨b, 0, none⟩), .agg #[.slice (some A) f.bs.length cap, .int .u64 f.s, .int .u32 f.n, .int .u32 f.u]] w fun e w' => e = .returned (.int .i64 0) ∧
      (∃ v', QAt w' base fb b v' room low high above (fs ++ [f]) ∧ (v'.ownBlock = v.ownBlock ∨ ∃ g, v'.ownBlock = some g ∧ w.heap.size ≤ g)) ∧ Turns (fun k => k = b ∨ v.ownBlock = some k) w w' := by
  obtain ⟨hlt, c0, c1, c2, c3, c4, c5, ff⟩ := h.cells
  have e0 : ((f.bs.length : Int) == 0) = false := beq_eq_false_iff_ne.2 (by omega)
  have h2 := h.most
  have h3 := h.fits
  have h4 := total_nonneg fs
  have e1 : ¬ room - total fs < (f.bs.length : Int) := by omega
  have e1' : decide (room - total fs < (f.bs.length : Int)) = false := by simp; omega
  obtain ⟨i0, hi, hz0, hz1, hz2⟩ := info_parts Try.info5
  replace hc := hide hc
  have hlt1 : b < w.heap.size + 1 := by omega
  go_enter Try.func11, Try.ntmps11
  go_wp2
  go_quiet (fail)
  go_wp2_with (at_builtin; refine wpList_q_append rfl (.tmp 28) (.tmp 30) 22 rfl fb 5 i0 (.int .u8 0) 1 1 Try.underlying22 hi hz0 hz1 hz2 rfl (by decide) (.slice (some ⟨w.heap.size + 1, 0, none⟩) 0 0) 0 [] rfl ?own A f.bs.length cap (byteCells f.bs) rfl ?len ?news ?one ?m ?b1 ?b2 ?bb ?next)
  case own => exact qrow_empty (by simpa using Blk.new ((w.alloc (.cells #[.slice (some A) f.bs.length cap, .int .u64 f.s, .int .u32 f.n, .int .u32 f.u] 34)).drewN nq) #[] 5) (by omega)
  case len => simp [byteCells]
  case news =>
    intro j u hj
    have hl := block_lt_of_cell (hc.out j u hj)
    have K : Turns nobody w (((w.alloc (.cells #[.slice (some A) f.bs.length cap, .int .u64 f.s, .int .u32 f.n, .int .u32 f.u] 34)).drewN nq).alloc (.cells #[] 5)) := (by repeat' (first | exact Turns.refl _ _ | assumption | exact Or.inl rfl | exact Or.inr (Nat.le_refl _) | apply Turns.alloc | apply Turns.drew | apply Turns.drewN | apply Turns.setCell | (apply Or.inr; simp; done) | (apply Or.inr; simp; omega) | exact fun _ hh => False.elim hh | exact fun _ hh => Or.inl hh | (intro i hi; right; (try simp only at hi); omega) | (intro i hi; right; simp at hi; omega) | refine Turns.step ?_ (by assumption) ?_))
    exact (K.none_below.cell hl).trans (hc.out j u hj)
  case one =>
    intro u hu
    simp only [byteCells, List.mem_map] at hu
    obtain ⟨x, _, rfl⟩ := hu
    rfl
  case m => exact h0
  case b1 => unfold maxLen; omega
  case b2 => omega
  case bb => simp; omega
  case next =>
    intro g off cap1 w1 hq hg hat
    have k1 := Turns.of_grown hg
    have kk : Turns nobody w (((w.alloc (.cells #[.slice (some A) f.bs.length cap, .int .u64 f.s, .int .u32 f.n, .int .u32 f.u] 34)).drewN nq).alloc (.cells #[] 5)) := (by repeat' (first | exact Turns.refl _ _ | assumption | exact Or.inl rfl | exact Or.inr (Nat.le_refl _) | apply Turns.alloc | apply Turns.drew | apply Turns.drewN | apply Turns.setCell | (apply Or.inr; simp; done) | (apply Or.inr; simp; omega) | exact fun _ hh => False.elim hh | exact fun _ hh => Or.inl hh | (intro i hi; right; (try simp only at hi); omega) | (intro i hi; right; simp at hi; omega) | refine Turns.step ?_ (by assumption) ?_))
    have B0 : Blk w1 w.heap.size #[.slice (some A) f.bs.length cap, .int .u64 f.s, .int .u32 f.n, .int .u32 f.u] 34 :=
      Blk.turns (((Blk.new w _ 34).drewN nq).alloc (.cells #[] 5)) k1 (by simp [Value.ownBlock])
    have k1' : Turns nobody w w1 := by
      refine Turns.step kk k1 (fun i hi => .inr ?_)
      simp [Value.ownBlock] at hi
      omega
    have h5 : QAt w1 base fb b v room low high above fs := h.still k1'
    have hg2 : w.heap.size < g := by
      rcases hat with hat | hat
      · simp [Value.ownBlock] at hat; omega
      · omega
    obtain ⟨w2, e2⟩ : ∃ w2, w2 = w1.setCell ⟨w.heap.size, 0, none⟩ (.slice (some ⟨g, off, none⟩) f.bs.length cap1) := ⟨_, rfl⟩
    have k2 : Turns nobody w w2 := by rw [e2]; exact (by repeat' (first | exact Turns.refl _ _ | assumption | exact Or.inl rfl | exact Or.inr (Nat.le_refl _) | apply Turns.alloc | apply Turns.drew | apply Turns.drewN | apply Turns.setCell | (apply Or.inr; simp; done) | (apply Or.inr; simp; omega) | exact fun _ hh => False.elim hh | exact fun _ hh => Or.inl hh | (intro i hi; right; (try simp only at hi); omega) | (intro i hi; right; simp at hi; omega) | refine Turns.step ?_ (by assumption) ?_))
    have k12 : Turns (· = w.heap.size) w1 w2 := by rw [e2]; exact (by repeat' (first | exact Turns.refl _ _ | assumption | exact Or.inl rfl | exact Or.inr (Nat.le_refl _) | apply Turns.alloc | apply Turns.drew | apply Turns.drewN | apply Turns.setCell | (apply Or.inr; simp; done) | (apply Or.inr; simp; omega) | exact fun _ hh => False.elim hh | exact fun _ hh => Or.inl hh | (intro i hi; right; (try simp only at hi); omega) | (intro i hi; right; simp at hi; omega) | refine Turns.step ?_ (by assumption) ?_))
    have B2 : Blk w2 w.heap.size #[.slice (some ⟨g, off, none⟩) f.bs.length cap1, .int .u64 f.s, .int .u32 f.n, .int .u32 f.u] 34 := by rw [e2]; simpa using B0.set 0 (.slice (some ⟨g, off, none⟩) f.bs.length cap1)
    have h6 : QAt w2 base fb b v room low high above fs := h.still k2
    have hq2 : QRow w2 fb 5 1 (.slice (some ⟨g, off, none⟩) f.bs.length cap1) f.bs.length (byteCells f.bs) := qrow_turns hq k12 (fun g' hg' e => by simp [Value.ownBlock] at hg'; omega)
    have kg := hide hg
    clear hg k1 kk h5
    have cB0 := B0.cell; have fB0 := B0.frozen
    have lw1 := B0.lt
    have lw2 := B2.lt
    go_wp2_with fail
    rw [← e2]
    clear e2 cB0 fB0
    have cB2 := B2.cell; have fB2 := B2.frozen
    have kq := hide k12
    clear k12
    obtain ⟨hlt', d0, d1, d2, d3, d4, d5, dd⟩ := h6.cells
    go_still_tail 4, (by kernel_rfl)
    change wpList _ _ _ _ _ w2.drew
    obtain ⟨xs, r1, r2⟩ := h6.row
    have hl := total_len fs h.pos
    have p1 := h.bb
    have p2 := k2.size
    replace r1 := hide r1
    replace r2 := hide r2
    go_wp2_with fail
    refine (line_put (w := w2.drew) (v := v) (rest := [.int .i64 room, .int .i64 low, .int .i64 high, .int .i64 (total fs), .bool above]) h6.blk.drew (qrow_turns r1.out ((Turns.refl nobody _).drew) (fun _ _ hh => hh.elim)) (by rw [World.size_drew]; omega) (by omega) _ _ _ _ rfl).mono ?_
    rintro e w3 ⟨rfl, v', m1, m2, m3, m4⟩
    have ne1 : ¬ (w.heap.size = b ∨ v.ownBlock = some w.heap.size) := by
      rintro (hh | hh)
      · omega
      · obtain ⟨xs', s1, _⟩ := h.row
        have := q_lt s1 _ hh
        omega
    have B3 := B2.drew.turns m3 ne1
    have cB3 := B3.cell; have fB3 := B3.frozen
    have m5 := m1
    have m1 : Blk w3 b #[v', .int .i64 room, .int .i64 low, .int .i64 high, .int .i64 (total fs), .bool above] 65 := m1
    clear m5
    clear cB2 fB2 d0 d1 d2 d3 d4 d5 dd c0 c1 c2 c3 c4 c5 ff
    have cm := m1.cell; have fm := m1.frozen
    have r2 := r2
    replace m2 := hide m2
    replace m3 := hide m3
    have hl3 : (f.bs.length : Int) ≤ 65536 := by omega
    have lt3 := m1.lt
    go_wp2_with fail
    go_still_tail 10, (by kernel_rfl)
    change wpList _ _ _ _ _ w3.drew
    go_wp2_with fail
    go_returns
    have k5 : Turns (· = b) w3 (w3.setCell ⟨b, 4, none⟩ (.int .i64 (total fs + f.bs.length))) := (by repeat' (first | exact Turns.refl _ _ | assumption | exact Or.inl rfl | exact Or.inr (Nat.le_refl _) | apply Turns.alloc | apply Turns.drew | apply Turns.drewN | apply Turns.setCell | (apply Or.inr; simp; done) | (apply Or.inr; simp; omega) | exact fun _ hh => False.elim hh | exact fun _ hh => Or.inl hh | (intro i hi; right; (try simp only at hi); omega) | (intro i hi; right; simp at hi; omega) | refine Turns.step ?_ (by assumption) ?_))
    have tyb : ∀ g' cs t, w3.heap[g']? = some (.cells cs t (0, 0)) → t ≠ 65 → ¬ g' = b := fun g' cs t hc' ht => ne_of_types hc' m1 ht
    have q3 : QRow w3 fb 5 1 (.slice (some ⟨g, off, none⟩) f.bs.length cap1) f.bs.length (byteCells f.bs) := by
      refine qrow_turns (qrow_turns hq2 ((Turns.refl nobody _).drew) (fun _ _ hh => hh.elim)) m3.out (fun g' hg' e => ?_)
      obtain ⟨_, cells, hc'⟩ := q_typed hq2 g' hg'
      rcases e with e | e
      · exact ne_of_types hc' h6.blk (by decide) e
      · obtain ⟨_, cells2, hc2⟩ := q_typed r1.out g' e
        exact ne_of_types hc' hc2 (by decide) rfl
    have r3 : Frames w3 fb fs xs := by
      refine (r2.out.turns ((Turns.refl nobody _).drew) (fun _ _ _ _ hh => hh.elim)).turns m3.out (fun g' cs hc' _ e => ?_)
      rcases e with e | e
      · exact ne_of_types hc' h6.blk (by decide) e
      · obtain ⟨_, cells2, hc2⟩ := q_typed r1.out g' e
        exact ne_of_types hc' hc2 (by decide) rfl
    have r4 := (r3.snoc r1.out.1 f _ q3)
    refine ⟨rfl, ⟨v', ⟨?_, p1, ⟨xs ++ stampCells (.slice (some ⟨g, off, none⟩) f.bs.length cap1) f, ?_, ?_⟩, ?_, ?_, h2⟩, ?_⟩, ?_⟩
    · rw [total_snoc]
      exact Blk.drew (by simpa using m1.set 4 (.int .i64 (total fs + f.bs.length)))
    · rw [List.length_append]
      refine qrow_turns m2.out k5.drew (fun g' hg' e => ?_)
      obtain ⟨_, cells, hc'⟩ := q_typed m2.out g' hg'
      exact tyb _ _ _ hc' (by decide) e
    · refine r4.turns k5.drew (fun g' cs hc' _ e => ?_)
      exact tyb _ _ _ hc' (by decide) e
    · intro f' hf'
      rcases List.mem_append.1 hf' with hf' | hf'
      · exact h.pos f' hf'
      · simp at hf'
        subst hf'
        exact h0
    · rw [total_snoc]; omega
    · rcases m4 with m4 | ⟨g', hg', hle⟩
      · exact .inl m4
      · exact .inr ⟨g', hg', by simp at hle; omega⟩
    · have k3 := m3.out
      exact Turns.drew (Turns.setCell (Turns.step (k2.mono (fun _ _ hh => hh.elim)).drew k3 (fun _ hi => .inl hi)) (.inl (.inl rfl)) _)

end Go.Proofs.Ytklicfagdpjhdaa
