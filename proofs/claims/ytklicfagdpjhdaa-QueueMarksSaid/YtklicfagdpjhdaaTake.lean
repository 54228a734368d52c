/- What Take does with a queue. -/
import Derived.Test.YtklicfagdpjhdaaPut
set_option linter.unusedVariables false
namespace Go.Proofs.Ytklicfagdpjhdaa
open Go.RowKit Go.Proofs.YtklicfagdpjhdaaW.PrintWords

def noRaw : Value := .agg #[.slice none 0 0, .int .u64 0, .int .u32 0, .int .u32 0]

set_option maxHeartbeats 400000 in
theorem take_nil (w : World) : Calls Try.prog 12 #[.pointer none] w fun e w' => e = .returned (.tuple #[.agg #[.slice none 0 0, .int .u64 0, .int .u32 0, .int .u32 0], .int .i64 6]) ∧ Turns nobody w w' := by
  go_enter Try.func12, Try.ntmps12
  go_wp2
  go_returns
  exact ⟨rfl, (by repeat' (first | exact Turns.refl _ _ | assumption | exact Or.inl rfl | exact Or.inr (Nat.le_refl _) | apply Turns.alloc | apply Turns.drew | apply Turns.drewN | apply Turns.setCell | (apply Or.inr; simp; done) | (apply Or.inr; simp; omega) | exact fun _ hh => False.elim hh | exact fun _ hh => Or.inl hh | (intro i hi; right; (try simp only at hi); omega) | (intro i hi; right; simp at hi; omega) | refine Turns.step ?_ (by assumption) ?_))⟩

set_option maxHeartbeats 400000 in
theorem take_none {w : World} {base fb b : Nat} {v : Value} {room low high : Int} {above : Bool} (h : QAt w base fb b v room low high above []) :
    Calls Try.prog 12 #[.pointer (some ⟨b, 0, none⟩)] w fun e w' => e = .returned (.tuple #[.agg #[.slice none 0 0, .int .u64 0, .int .u32 0, .int .u32 0], .int .i64 6]) ∧ Turns nobody w w' := by
  obtain ⟨xs, r1, r2⟩ := h.row
  replace r1 := hide r1
  clear r2
  have hlt := h.blk.lt
  go_enter Try.func12, Try.ntmps12
  go_wp2_with fail
  have h' := h.still ((Turns.refl nobody w).alloc (.cells #[.slice none 0 0, .int .u64 0, .int .u32 0, .int .u32 0] 34))
  refine (line_take_none (rest := [.int .i64 room, .int .i64 low, .int .i64 high, .int .i64 (total []), .bool above]) (base := base) h'.blk (xs := xs) (qrow_turns r1.out ((Turns.refl nobody w).alloc _) (fun _ _ hh => hh.elim))).mono ?_
  rintro e w1 ⟨rfl, k1⟩
  have B0 := (Blk.new w #[.slice none 0 0, .int .u64 0, .int .u32 0, .int .u32 0] 34).turns k1 (by intro hh; first | exact False.elim hh | ((try simp only at hh); omega) | (simp at hh; omega))
  obtain ⟨lt1, p0, p1, p2, p3, g0, g1, g2, g3⟩ := B0.cells4
  go_wp2_with fail
  refine bodyPost_ret (ret_row_tmp rfl _ _ w.heap.size 34 #[.slice none 0 0, .int .u64 0, .int .u32 0, .int .u32 0] _ rfl ?_ Try.underlying34 rfl (by kernel_rfl)) rfl ?_
  · exact (by simpa using (((B0.set 0 (.slice none 0 0)).set 1 (.int .u64 0)).set 2 (.int .u32 0)).set 3 (.int .u32 0) : Blk _ w.heap.size #[.slice none 0 0, .int .u64 0, .int .u32 0, .int .u32 0] 34).alloc _
  exact ⟨rfl, (by repeat' (first | exact Turns.refl _ _ | assumption | exact Or.inl rfl | exact Or.inr (Nat.le_refl _) | apply Turns.alloc | apply Turns.drew | apply Turns.drewN | apply Turns.setCell | (apply Or.inr; simp; done) | (apply Or.inr; simp; omega) | exact fun _ hh => False.elim hh | exact fun _ hh => Or.inl hh | (intro i hi; right; (try simp only at hi); omega) | (intro i hi; right; simp at hi; omega) | refine Turns.step ?_ (by assumption) ?_))⟩

set_option maxHeartbeats 400000 in
theorem take_some {w : World} {base fb b : Nat} {v : Value} {room low high : Int} {above : Bool} {f : Fr} {fs : List Fr} (h : QAt w base fb b v room low high above (f :: fs)) :
    Calls Try.prog 12 #[.pointer (some ⟨b, 0, none⟩)] w fun e w' => ∃ X k, e = .returned (.tuple #[.agg #[.slice X f.bs.length k, .int .u64 f.s, .int .u32 f.n, .int .u32 f.u], .int .i64 0]) ∧
      QRow w' fb 5 1 (.slice X f.bs.length k) f.bs.length (byteCells f.bs) ∧ (∃ v', QAt w' base fb b v' room low high above fs ∧ v'.ownBlock = v.ownBlock) ∧ Turns (· = b) w w' := by
  obtain ⟨xs, r1, r2⟩ := h.row
  obtain ⟨v0, e0, q0⟩ := r2 0 f rfl
  obtain ⟨X, k, rfl, _⟩ := q_slice q0
  have r3 := r2.tail
  have ex : xs = [.slice X f.bs.length k, .int .u64 f.s, .int .u32 f.n, .int .u32 f.u] ++ xs.drop 4 := by
    have := List.take_append_drop 4 xs
    rw [← this]
    simp at e0
    rw [e0]
    simp [stampCells]
  rw [ex] at r1
  replace r1 := hide r1
  replace r3 := hide r3
  replace q0 := hide q0
  have hlen := total_nonneg fs
  have htot := total_cons f fs
  have hge : (f.bs.length : Int) ≤ total (f :: fs) := by omega
  have hfit := h.fits
  have hmost := h.most
  replace htot := hide htot
  have hpos := h.pos f List.mem_cons_self
  have hb := h.bb
  clear r2 ex e0
  have hlt := h.blk.lt
  go_enter Try.func12, Try.ntmps12
  go_wp2_with fail
  have h' := h.still ((Turns.refl nobody w).alloc (.cells #[.slice none 0 0, .int .u64 0, .int .u32 0, .int .u32 0] 34))
  refine (line_take (rest := [.int .i64 room, .int .i64 low, .int .i64 high, .int .i64 (total (f :: fs)), .bool above]) (base := base) h'.blk _ _ _ _ _ _ (qrow_turns r1.out ((Turns.refl nobody w).alloc _) (fun _ _ hh => hh.elim))).mono ?_
  rintro e w1 ⟨rfl, v', m1, m2, m3, m4⟩
  have B0 := (Blk.new w #[.slice none 0 0, .int .u64 0, .int .u32 0, .int .u32 0] 34).turns m3 (by intro hh; first | exact False.elim hh | ((try simp only at hh); omega) | (simp at hh; omega))
  have m1 : Blk w1 b #[v', .int .i64 room, .int .i64 low, .int .i64 high, .int .i64 (total (f :: fs)), .bool above] 65 := m1
  have lt1 := B0.lt
  have lt2 := m1.lt
  have lt3 : b < w1.heap.size + 1 := by omega
  have B1 := Blk.new w1 #[.slice X f.bs.length k, .int .u64 f.s, .int .u32 f.n, .int .u32 f.u] 34
  replace B0 := B0.alloc (.cells #[.slice X f.bs.length k, .int .u64 f.s, .int .u32 f.n, .int .u32 f.u] 34)
  have m5 := m1.alloc (.cells #[.slice X f.bs.length k, .int .u64 f.s, .int .u32 f.n, .int .u32 f.u] 34)
  obtain ⟨w2, e2⟩ : ∃ w2, w2 = w1.alloc (.cells #[.slice X f.bs.length k, .int .u64 f.s, .int .u32 f.n, .int .u32 f.u] 34) := ⟨_, rfl⟩
  have k2 : Turns nobody w1 w2 := by rw [e2]; exact (by repeat' (first | exact Turns.refl _ _ | assumption | exact Or.inl rfl | exact Or.inr (Nat.le_refl _) | apply Turns.alloc | apply Turns.drew | apply Turns.drewN | apply Turns.setCell | (apply Or.inr; simp; done) | (apply Or.inr; simp; omega) | exact fun _ hh => False.elim hh | exact fun _ hh => Or.inl hh | (intro i hi; right; (try simp only at hi); omega) | (intro i hi; right; simp at hi; omega) | refine Turns.step ?_ (by assumption) ?_))
  rw [← e2] at B0 B1 m5
  have hl2 : w1.heap.size < w2.heap.size := B1.lt
  replace e2 := hide e2
  obtain ⟨lt4, p0, p1, p2, p3, g0, g1, g2, g3⟩ := B0.cells4
  obtain ⟨lt5, x0, x1, x2, x3, y0, y1, y2, y3⟩ := B1.cells4
  have cm := m5.cell; have fm := m5.frozen
  go_wp2_with fail
  rw [← e2.out]
  go_still_tail 10, (by kernel_rfl)
  change wpList _ _ _ _ _ w2.drew
  go_wp2_with fail
  have D0 : Blk (((((w2.setCell ⟨b, 4, none⟩ (.int .i64 (total (f :: fs) - f.bs.length))).setCell ⟨w.heap.size, 0, none⟩ (.slice X f.bs.length k)).setCell ⟨w.heap.size, 1, none⟩ (.int .u64 f.s)).setCell ⟨w.heap.size, 2, none⟩ (.int .u32 f.n)).setCell ⟨w.heap.size, 3, none⟩ (.int .u32 f.u)).drew
      w.heap.size #[.slice X f.bs.length k, .int .u64 f.s, .int .u32 f.n, .int .u32 f.u] 34 := by
    refine Blk.drew ?_
    simpa using ((((B0.other (p := ⟨b, 4, none⟩) (by simp; omega) (.int .i64 (total (f :: fs) - f.bs.length))).set 0 (.slice X f.bs.length k)).set 1 (.int .u64 f.s)).set 2 (.int .u32 f.n)).set 3 (.int .u32 f.u)
  refine bodyPost_ret (ret_row_tmp rfl _ _ w.heap.size 34 #[.slice X f.bs.length k, .int .u64 f.s, .int .u32 f.n, .int .u32 f.u] _ rfl D0 Try.underlying34 rfl (by kernel_rfl)) rfl ?_
  have K2 : Turns (fun i => i = b) w w2 := Turns.step (Turns.step ((Turns.refl _ w).alloc _) m3 (fun _ hi => .inl hi)) k2 (fun _ hi => hi.elim)
  have K3 : Turns (fun i => i = b ∨ i = w.heap.size) w2 (((((w2.setCell ⟨b, 4, none⟩ (.int .i64 (total (f :: fs) - f.bs.length))).setCell ⟨w.heap.size, 0, none⟩ (.slice X f.bs.length k)).setCell ⟨w.heap.size, 1, none⟩ (.int .u64 f.s)).setCell ⟨w.heap.size, 2, none⟩ (.int .u32 f.n)).setCell ⟨w.heap.size, 3, none⟩ (.int .u32 f.u)).drew :=
    Turns.drew (Turns.setCell (Turns.setCell (Turns.setCell (Turns.setCell (Turns.setCell (Turns.refl _ _) (.inl (.inl rfl)) _) (.inl (.inr rfl)) _) (.inl (.inr rfl)) _) (.inl (.inr rfl)) _) (.inl (.inr rfl)) _)
  have apart : ∀ g cs t, w.heap[g]? = some (.cells cs t (0, 0)) → t ≠ 65 → ¬ (g = b ∨ g = w.heap.size) := by
    intro g cs t hc ht hh
    rcases hh with hh | hh
    · exact ne_of_types hc h.blk ht hh
    · have := (Array.getElem?_eq_some_iff.1 hc).1
      omega
  have K4 : Turns (fun i => i = b) w _ := Turns.step K2 K3 (fun i hi => hi.elim .inl (fun e => .inr (by omega)))
  have nb : ∀ g cs t, w.heap[g]? = some (.cells cs t (0, 0)) → t ≠ 65 → ¬ g = b := fun g cs t hc ht e => apart g cs t hc ht (.inl e)
  have q1 := qrow_turns q0.out K4 (fun g hg => by obtain ⟨_, cells, hc⟩ := q_typed q0.out g hg; exact nb _ _ _ hc (by decide))
  have F1 := r3.out.turns K4 (fun g cs hc _ => nb _ _ _ hc (by decide))
  refine ⟨X, k, rfl, q1, ⟨v', ⟨?_, hb, ⟨_, ?_, F1⟩, fun f' hf' => h.pos f' (List.mem_cons_of_mem _ hf'), ?_, hmost⟩, m4⟩, K4⟩
  · refine Blk.drew ?_
    have e4 : total (f :: fs) - f.bs.length = total fs := by have := htot.out; omega
    rw [e4]
    have m6 : Blk (w2.setCell ⟨b, 4, none⟩ (.int .i64 (total fs))) b #[v', .int .i64 room, .int .i64 low, .int .i64 high, .int .i64 (total fs), .bool above] 65 := by simpa using m5.set 4 (.int .i64 (total fs))
    exact (((m6.other (by simp; omega) _).other (by simp; omega) _).other (by simp; omega) _).other (by simp; omega) _
  · have m7 : QRow w2 base 34 4 v' fs.length (xs.drop 4) := qrow_turns m2 k2 (fun _ _ hh => hh.elim)
    refine qrow_turns m7 K3 (fun g hg hh => ?_)
    obtain ⟨_, cells, hc⟩ := q_typed m7 g hg
    rcases hh with hh | hh
    · exact ne_of_types hc m5 (by decide) hh
    · rw [m4] at hg
      have := q_lt r1.out g hg
      omega
  · have := htot.out
    omega

end Go.Proofs.Ytklicfagdpjhdaa
