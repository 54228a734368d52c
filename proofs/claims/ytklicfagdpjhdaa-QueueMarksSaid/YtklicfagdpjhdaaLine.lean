/- What put and take do with what waits. -/
import Derived.Test.YtklicfagdpjhdaaState
set_option linter.unusedVariables false
namespace Go.Proofs.Ytklicfagdpjhdaa
open Go.RowKit Go.Proofs.YtklicfagdpjhdaaW.PrintWords

theorem Try.info34 : (Try.prog.info? 34).map (fun i => (i.zero, i.size, i.bytes)) = some (some (.agg #[.slice none 0 0, .int .u64 0, .int .u32 0, .int .u32 0]), 4, 40) := by kernel_rfl

set_option maxHeartbeats 1000000 in
theorem line_put {w : World} {base b : Nat} {v : Value} {rest : List Value} {n : Nat} {xs : List Value} (hB : Blk w b (v :: rest).toArray 65) (h : QRow w base 34 4 v n xs) (hbase : base ≤ w.heap.size) (hn : n ≤ 65536)
    (x : Value) (s u z : Int) (hx : x.oneCell' = true) :
    Calls Try.prog 25 #[.pointer (some ⟨b, 0, none⟩), .agg #[x, .int .u64 s, .int .u32 u, .int .u32 z]] w fun e w' => e = .returned (.tuple #[]) ∧
      ∃ v', Blk w' b (v' :: rest).toArray 65 ∧ QRow w' base 34 4 v' (n + 1) (xs ++ [x, .int .u64 s, .int .u32 u, .int .u32 z]) ∧ Turns (fun k => k = b ∨ v.ownBlock = some k) w w' ∧
        (v'.ownBlock = v.ownBlock ∨ ∃ g, v'.ownBlock = some g ∧ w.heap.size ≤ g) := by
  obtain ⟨i0, hi, hz0, hz1, hz2⟩ := info_parts Try.info34
  have hlt := hB.lt
  have c0 : w.cell? ⟨b, 0, none⟩ = some v := hB.cell 0
  have f0 := hB.frozen 0
  obtain ⟨A, c, rfl, hnc⟩ := q_slice h
  have own : Hid (QRow (((w.alloc (.cells #[x, .int .u64 s, .int .u32 u, .int .u32 z] 34)).alloc (.cells #[x, .int .u64 s, .int .u32 u, .int .u32 z] 34)).drew) base 34 4 (.slice A n c) n xs) :=
    qrow_turns h (((Turns.refl nobody w).alloc _).alloc _).drew (fun _ _ hh => hh.elim)
  have news : Hid (∀ j u', [x, Value.int .u64 s, .int .u32 u, .int .u32 z][j]? = some u' → (((w.alloc (.cells #[x, .int .u64 s, .int .u32 u, .int .u32 z] 34)).alloc (.cells #[x, .int .u64 s, .int .u32 u, .int .u32 z] 34)).drew).cell? ((⟨w.heap.size + 1, 0, none⟩ : Addr).add j) = some u') := by
    have B := (boxes2 w #[x, .int .u64 s, .int .u32 u, .int .u32 z] #[x, .int .u64 s, .int .u32 u, .int .u32 z] 34 34).2
    exact fun j u' hj => World.news_of_block (w := _) (fr := (0, 0)) B j u' (by simpa using hj)
  have one : Hid (∀ u' ∈ [x, Value.int .u64 s, .int .u32 u, .int .u32 z], u'.oneCell' = true) := by
    intro u' hu
    simp at hu
    rcases hu with rfl | rfl | rfl | rfl
    · exact hx
    all_goals rfl
  have b1 : n + 1 ≤ maxLen := by unfold maxLen; omega
  have b2 : (n + 1) * 40 ≤ 140737488355328 := by omega
  have bb : base ≤ (((w.alloc (.cells #[x, .int .u64 s, .int .u32 u, .int .u32 z] 34)).alloc (.cells #[x, .int .u64 s, .int .u32 u, .int .u32 z] 34)).drew).heap.size := by simp; omega
  replace bb := hide bb
  replace b1 := hide b1
  have ne : ¬ (Value.slice A n c).ownBlock = some b := by
    intro hb
    obtain ⟨_, cells, hc⟩ := q_typed h b hb
    exact ne_of_types hc hB (by decide) rfl
  replace ne := hide ne
  clear h
  go_enter Try.func25, Try.ntmps25
  go_wp2
  go_region_law ((refine step_q_append rfl (.tmp 8) (.tmp 10) 43 rfl base 34 i0 (.agg #[.slice none 0 0, .int .u64 0, .int .u32 0, .int .u32 0]) 4 40 Try.underlying43 hi hz0 hz1 hz2 rfl (by decide) (.slice A n c) n xs (by simp [Act.eval]) own.out ⟨w.heap.size + 1, 0, none⟩ 1 1 [x, .int .u64 s, .int .u32 u, .int .u32 z] (by simp [Act.eval]) rfl news.out one.out (by decide) b1.out b2 bb.out ?_; intro g off cap w1 hq hg hat; have B1 := Blk.turns ((hB.alloc (.cells #[x, .int .u64 s, .int .u32 u, .int .u32 z] 34)).alloc (.cells #[x, .int .u64 s, .int .u32 u, .int .u32 z] 34)).drew (Turns.of_grown hg) ne.out; have c1 := B1.cell 0; have f1 := B1.frozen 0))
  all_goals
    go_end0
    refine ⟨rfl, .slice (some ⟨g, off, none⟩) (n + 1) cap, by simpa using B1.set 0 (.slice (some ⟨g, off, none⟩) (n + 1) cap), qrow_turns (S := (· = b)) hq (by repeat' (first | exact Turns.refl _ _ | assumption | exact Or.inl rfl | exact Or.inr (Nat.le_refl _) | apply Turns.alloc | apply Turns.drew | apply Turns.drewN | apply Turns.setCell | (apply Or.inr; simp; done) | (apply Or.inr; simp; omega) | exact fun _ hh => False.elim hh | exact fun _ hh => Or.inl hh | (intro i hi; right; (try simp only at hi); omega) | (intro i hi; right; simp at hi; omega) | refine Turns.step ?_ (by assumption) ?_)) ?_, ?_, ?_⟩
    · intro g' hg' e
      obtain ⟨_, cells, hc⟩ := q_typed hq g' hg'
      exact ne_of_types hc B1 (by decide) e
    · refine Turns.setCell (Turns.step (((Turns.refl _ w).alloc _).alloc _).drew (Turns.of_grown hg) ?_) (.inl (.inl rfl)) _
      exact fun i hi => .inl (.inr hi)
    · rcases hat with hat | hat
      · exact .inl hat.symm
      · exact .inr ⟨g, rfl, by simp at hat; omega⟩

set_option maxHeartbeats 1000000 in
theorem line_take_none {w : World} {base b : Nat} {v : Value} {rest : List Value} {xs : List Value} (hB : Blk w b (v :: rest).toArray 65) (h : QRow w base 34 4 v 0 xs) :
    Calls Try.prog 26 #[.pointer (some ⟨b, 0, none⟩)] w fun e w' => e = .returned (.tuple #[.agg #[.slice none 0 0, .int .u64 0, .int .u32 0, .int .u32 0], .bool false]) ∧ Turns nobody w w' := by
  have hlt := hB.lt
  have c0 : w.cell? ⟨b, 0, none⟩ = some v := hB.cell 0
  obtain ⟨A, c, rfl, hnc⟩ := q_slice h
  go_enter Try.func26, Try.ntmps26
  go_wp2
  go_returns
  exact ⟨rfl, (by repeat' (first | exact Turns.refl _ _ | assumption | exact Or.inl rfl | exact Or.inr (Nat.le_refl _) | apply Turns.alloc | apply Turns.drew | apply Turns.drewN | apply Turns.setCell | (apply Or.inr; simp; done) | (apply Or.inr; simp; omega) | exact fun _ hh => False.elim hh | exact fun _ hh => Or.inl hh | (intro i hi; right; (try simp only at hi); omega) | (intro i hi; right; simp at hi; omega) | refine Turns.step ?_ (by assumption) ?_))⟩

set_option maxHeartbeats 1000000 in
theorem line_take {w : World} {base b : Nat} {v : Value} {rest : List Value} {n : Nat} {xs : List Value} (hB : Blk w b (v :: rest).toArray 65)
    (X : Option Addr) (l k : Nat) (s u z : Int) (h : QRow w base 34 4 v (n + 1) ([.slice X l k, .int .u64 s, .int .u32 u, .int .u32 z] ++ xs)) :
    Calls Try.prog 26 #[.pointer (some ⟨b, 0, none⟩)] w fun e w' => e = .returned (.tuple #[.agg #[.slice X l k, .int .u64 s, .int .u32 u, .int .u32 z], .bool true]) ∧
      ∃ v', Blk w' b (v' :: rest).toArray 65 ∧ QRow w' base 34 4 v' n xs ∧ Turns (fun k => k = b) w w' ∧ v'.ownBlock = v.ownBlock := by
  have hlt := hB.lt
  have c0 : w.cell? ⟨b, 0, none⟩ = some v := hB.cell 0
  have f0 := hB.frozen 0
  have hlt1 : b < w.heap.size + 1 := by omega
  have hlt2 : b < w.heap.size + 1 + 1 := by omega
  obtain ⟨g, o, c, rfl, hnc, hbg, hgl, hc⟩ := q_form h (by omega)
  obtain ⟨i0, hi, hz0, hz1, hz2⟩ := info_parts Try.info34
  have hd := q_drop (k := 1) h (by omega)
  have hcut := cut_from (P := Try.prog) 43 34 .i64 Try.underlying43 hi 4 hz1 (some ⟨g, o, none⟩) (n + 1) c 1 (by decide) (by omega)
  obtain ⟨A', hA'⟩ : ∃ A', (if c = 1 then some (⟨g, o, none⟩ : Addr) else (some (⟨g, o, none⟩ : Addr)).map (fun x : Addr => x.add (1 * 4))) = A' := ⟨_, rfl⟩
  simp only [show (1 : Int).toNat = 1 from rfl] at hcut
  rw [hA'] at hcut hd
  have hA2 : (Value.slice A' n (c - 1)).ownBlock = some g := by
    rw [← hA']
    split
    · rfl
    · simp [Value.ownBlock, Addr.add]
  have p0 := hc 0 (.slice X l k) rfl
  rw [Nat.add_zero] at p0
  have p1 := hc 1 (.int .u64 s) rfl
  have p2 := hc 2 (.int .u32 u) rfl
  have p3 := hc 3 (.int .u32 z) rfl
  have hne : ¬ g = b := by
    obtain ⟨_, cells, hc⟩ := q_typed h g rfl
    exact ne_of_types hc hB (by decide)
  have e0 : ((n : Int) + 1 == 0) = false := beq_eq_false_iff_ne.2 (by omega)
  have i1 : (0 : Int) < (n : Int) + 1 := by omega
  rw [Nat.add_sub_cancel] at hcut hd
  replace hd := hide hd
  have hA' := hide hA'
  replace hA2 := hide hA2
  replace h := hide h
  clear hc hz0 hz1 hz2 hi
  go_enter Try.func26, Try.ntmps26
  go_wp2
  go_returns
  refine ⟨rfl, .slice A' n (c - 1), ?_, ?_, (by repeat' (first | exact Turns.refl _ _ | assumption | exact Or.inl rfl | exact Or.inr (Nat.le_refl _) | apply Turns.alloc | apply Turns.drew | apply Turns.drewN | apply Turns.setCell | (apply Or.inr; simp; done) | (apply Or.inr; simp; omega) | exact fun _ hh => False.elim hh | exact fun _ hh => Or.inl hh | (intro i hi; right; (try simp only at hi); omega) | (intro i hi; right; simp at hi; omega) | refine Turns.step ?_ (by assumption) ?_)), hA2.out⟩
  · simpa using (((hB.set 0 (.slice A' n (c - 1))).alloc _).alloc _).alloc _
  · refine qrow_turns (S := (· = b)) hd.out (by repeat' (first | exact Turns.refl _ _ | assumption | exact Or.inl rfl | exact Or.inr (Nat.le_refl _) | apply Turns.alloc | apply Turns.drew | apply Turns.drewN | apply Turns.setCell | (apply Or.inr; simp; done) | (apply Or.inr; simp; omega) | exact fun _ hh => False.elim hh | exact fun _ hh => Or.inl hh | (intro i hi; right; (try simp only at hi); omega) | (intro i hi; right; simp at hi; omega) | refine Turns.step ?_ (by assumption) ?_)) ?_
    intro g' hg' e
    rw [hA2.out] at hg'
    injection hg' with hg'
    exact hne (hg'.trans e)

end Go.Proofs.Ytklicfagdpjhdaa
