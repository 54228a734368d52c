/- What Put does with a ring. -/
import Derived.Test.YtefgcdpceeeeaaaIter
import Derived.RangeFuncWrites
import Derived.Maps.AppendAt
set_option linter.unusedVariables false
namespace Go.Proofs.Ytefgcdpceeeeaaa
open Go.RowKit Go.Shelf
attribute [local go_sem] Oper.semAt_some

theorem Try.info3 : (Try.prog.info? 3).map (fun i => (i.zero, i.size, i.bytes)) = some (some (.int .i64 0), 1, 8) := by kernel_rfl

set_option maxHeartbeats 400000 in
theorem put_arg (p : Option Addr) (n : Int) (w : World) (h : n < 1) : Calls Try.prog 12 #[.pointer p, .int .i64 n] w fun e w' => e = .returned (.tuple #[.slice none 0 0, .int .i64 1]) ∧ Turns nobody w w' := by
  go_enter Try.func12, Try.ntmps12
  go_wp2
  go_ret2
  exact ⟨rfl, (by repeat' (first | exact Turns.refl _ _ | assumption | exact Or.inl rfl | exact Or.inr (Nat.le_refl _) | apply Turns.alloc | apply Turns.drew | apply Turns.drewN | apply Turns.setCell | (apply Or.inr; simp; done) | (apply Or.inr; simp; omega) | exact fun _ hh => False.elim hh | exact fun _ hh => Or.inl hh | (intro i hi; right; (try simp only at hi); omega) | (intro i hi; right; simp at hi; omega) | refine Turns.step ?_ (by assumption) ?_))⟩
theorem Turns.putObj (W : World) (D : Nat) (o : Obj) : Turns (· = D) W (W.putObj D o) := ⟨rfl, rfl, rfl, by simp, fun g _ hn => World.putObj_heap_other (fun e => hn e)⟩

set_option maxRecDepth 100000 in
set_option maxHeartbeats 2000000 in
theorem put_ok {w : World} {b : Nat} {s f u : Int} (h : RG w b s f u) (m : Nat) (h1 : 1 ≤ m) (hfit : u + m ≤ s) :
    Calls Try.prog 12 #[.pointer (some ⟨b, 0, none⟩), .int .i64 m] w fun e w' => ∃ v, e = .returned (.tuple #[v, .int .i64 0]) ∧ w'.ownsRow w.heap.size 3 1 v m ((upto s f u m).map (Value.int .i64)) ∧ RG w' b s f (u + m) ∧ Turns (· = b) w w' := by
  obtain ⟨i0, hi, hz0, hz1, hz2⟩ := info_parts Try.info3
  have s0 := h.s0; have f0 := h.f0; have u0 := h.u0
  have e1 : ¬ (m : Int) < 1 := by omega
  have e2 : decide (s - u < (m : Int)) = false := by simp; omega
  refine (callsIn_wide (n := 6)).1 ?_
  refine callsIn_of_wp_marks Try.func12 rfl trivial ?_ rfl
  simp only [Try.ntmps12, List.size_toArray, List.length_cons, List.length_nil, Nat.reduceAdd, Nat.reduceSub, Array.replicate_succ, Array.replicate_zero, List.push_toArray, List.append_toArray, List.nil_append, List.cons_append]
  gi_wp2_with fail
  refine ⟨trivial, (callsIn_wide.2 (size_at h.blk)).mono ?_⟩
  rintro e w1 ⟨rfl, k1⟩
  have h1' := h.still k1
  gi_wp2_with fail
  refine ⟨trivial, (callsIn_wide.2 (used_at h1'.blk)).mono ?_⟩
  rintro e w2 ⟨rfl, k2⟩
  have h2 := h1'.still k2
  have k12 := k1.trans k2
  have hsz := k12.size
  obtain ⟨l2, c0, c1, c2, g0, g1, g2⟩ := h2.blk.cells3
  gi_wp2_with fail
  refine ⟨trivial, (callsIn_wide.2 (round_in 6 (some ⟨b, 0, none⟩) u m _)).mono ?_⟩
  rintro e w3 ⟨rfl, e3⟩
  try simp only [World.size_alloc] at e3
  have bO := Boxed.new w2 28 (.slice none 0 0)
  have bR := Boxed.new (w2.alloc (.cells #[.slice none 0 0] 28)) 24 (.pointer (some ⟨b, 0, none⟩))
  have bI := Boxed.new ((w2.alloc (.cells #[.slice none 0 0] 28)).alloc (.cells #[.pointer (some ⟨b, 0, none⟩)] 24)) 3 (.int .i64 u)
  have bN := Boxed.new (((w2.alloc (.cells #[.slice none 0 0] 28)).alloc (.cells #[.pointer (some ⟨b, 0, none⟩)] 24)).alloc (.cells #[.int .i64 u] 3)) 3 (.int .i64 m)
  replace bO := ((bO.alloc (.cells #[.pointer (some ⟨b, 0, none⟩)] 24)).alloc (.cells #[.int .i64 u] 3)).alloc (.cells #[.int .i64 m] 3)
  replace bR := (bR.alloc (.cells #[.int .i64 u] 3)).alloc (.cells #[.int .i64 m] 3)
  replace bI := bI.alloc (.cells #[.int .i64 m] 3)
  rw [← e3] at bO bR bI bN
  simp only [World.size_alloc] at bR bI bN
  have k3 : Turns nobody w w3 := by rw [e3]; exact (((k12.alloc _).alloc _).alloc _).alloc _
  have h3 : RG w3 b s f u := h.still k3
  obtain ⟨l3, d0, d1, d2, gg0, gg1, gg2⟩ := h3.blk.cells3
  have hw3 : w2.heap.size + 4 ≤ w3.heap.size := by rw [e3]; simp
  clear e3 c0 c1 c2 g0 g1 g2
  try simp only [World.size_alloc]
  gi_wp2_with fail
  have hbw := h.lt
  refine wpIn_rangeFunc_ownF (n := 6) rfl (by omega) (gf := 26) (lb := #[.pointer (some ⟨w2.heap.size + 1 + 2, 0, none⟩), .pointer (some ⟨w2.heap.size + 1, 0, none⟩), .pointer (some ⟨w2.heap.size + 1 + 1, 0, none⟩)]) rfl trivial (enters_of Try.func26 (by kernel_rfl) rfl)
    (round_stops 5 (w2.heap.size + 1 + 2) (w2.heap.size + 1) (w2.heap.size + 1 + 1) b m s f u s0 f0 (by omega) (by omega) w3 bN.cell bR.cell bI.cell d0 d1)
    (fun h k => h.trans k) (fun W l o o' hl _ _ _ => Keeps.putObj W l o' (fun g hg e => by rcases hg with hg | hg | hg | hg <;> omega)) (Below.refl _ _) (fun _ => rfl)
    (fun (pre : List Int) W => (∃ v, Boxed W w2.heap.size 28 v ∧ W.ownsRow w3.heap.size 3 1 v pre.length (pre.map (Value.int .i64)) ∧ True) ∧ Below w.heap.size w3 W)
    (fun _ _ _ => False)
    (OwnFrom.and (Own.from (holdsRow_own w3.heap.size w2.heap.size 28 3 1 (fun pre : List Int => pre.length) (fun pre : List Int => pre.map (Value.int .i64)) (fun _ _ => True)) _) (ownFrom_below k3.size k3.size))
    (fun _ _ _ _ _ hs _ _ => hs)
    ⟨⟨_, bO, World.ownsRow_nil _ _ _ _, trivial⟩, Below.refl _ _⟩
    (fun x => { tmps := #[.pointer (some ⟨b, 0, none⟩), .int .i64 m, undef, undef, .slice none 0 0, .int .i64 0, .pointer (some ⟨w2.heap.size, 0, none⟩), .int .i64 x, .bool false, .int .i64 m, .bool false, .bool false, .int .i64 m, .pointer (some ⟨b, 0, none⟩), .int .i64 s, .pointer (some ⟨b, 0, none⟩), .int .i64 u, .int .i64 (s - u), .bool false, .pointer (some ⟨b, 0, none⟩), .pointer (some ⟨b, 0, none⟩), .pointer (some ⟨b, 0, none⟩), .pointer (some ⟨b, 2, none⟩), .int .i64 u, .int .i64 m, .func (.func 26) #[] #[.pointer (some ⟨w2.heap.size + 1 + 2, 0, none⟩), .pointer (some ⟨w2.heap.size + 1, 0, none⟩), .pointer (some ⟨w2.heap.size + 1 + 1, 0, none⟩)], .int .i64 x, undef, undef, undef, undef, undef, undef, undef, undef, undef, undef, undef, undef, undef], defers := [] }) ?assign ?body ?done ?stop
  case assign =>
    intro l x W K hK
    gi_wp2
    exact hK
  case body =>
    rintro l pre x W ⟨⟨v, hv, hrow, _⟩, hB⟩ hlt
    have hc := hv.cell
    have hWs := hB.size
    have hlt64 : pre.length < 64 := by omega
    have hm63 : pre.length + 1 ≤ maxLen := by unfold maxLen; omega
    have hbase : w3.heap.size ≤ (W.alloc (.cells #[.int .i64 x] 3)).heap.size := by simp; omega
    gi_wp2_with (gi_at_builtin; refine wpListIn_append_own _ rfl _ _ 28 rfl w3.heap.size 3 i0 (.int .i64 0) 1 8 Try.underlying28 hi hz0 hz1 hz2 rfl (by decide) _ _ _ rfl (hrow.alloc _) ⟨W.heap.size, 0, none⟩ 1 1 [.int .i64 x] rfl rfl (cell_one_new _ _ _) (by simp [Value.oneCell']) hm63 (by omega) hbase ?_; intro v' w4 hown' hgrow _; obtain ⟨g', cap', rfl⟩ := ownsRow_succ hown'; have hv1 := (hv.alloc (.cells #[.int .i64 x] 3)).kept hgrow (hv.not_row (by decide) hrow); have hc1 := hv1.cell; have hf1 := hv1.frozen)
    obtain ⟨_, hv2, _, hk2, hb2⟩ := hv.appended (by decide) (Go.Proofs.YtefgcdpceeeeaaaW.PrintWords.own_weaken hrow k3.size) (Nat.le_trans k3.size hWs) hsz (Go.Proofs.YtefgcdpceeeeaaaW.PrintWords.own_weaken hown' k3.size) hgrow
    refine ⟨hk2, ?_, ⟨_, hv2, ?_, trivial⟩, hB.trans hb2⟩
    · have T : Turns (fun i => v.ownBlock = some i ∨ i = w2.heap.size) W _ := Turns.setCell (p := ⟨w2.heap.size, 0, none⟩) (Turns.step ((Turns.refl _ W).alloc (.cells #[.int .i64 x] 3)) (Turns.of_grown hgrow) (fun i hi => .inl (.inl hi))) (.inl (.inr rfl)) (.slice (some ⟨g', 0, none⟩) (pre.length + 1) cap')
      refine Keeps.of_turns T (fun g hg hh => ?_)
      have hgl : g < w3.heap.size ∧ g ≠ w2.heap.size := by rcases hg with hg | hg | hg | hg <;> omega
      rcases hh with hh | hh
      · have := Go.Proofs.YtefgcdpceeeeaaaW.PrintWords.own_base hrow g hh
        omega
      · exact hgl.2 hh
    · have T2 : Turns (· = w2.heap.size) w4 (w4.setCell ⟨w2.heap.size, 0, none⟩ (.slice (some ⟨g', 0, none⟩) (pre.length + 1) cap')) := (by repeat' (first | exact Turns.refl _ _ | assumption | exact Or.inl rfl | exact Or.inr (Nat.le_refl _) | apply Turns.alloc | apply Turns.drew | apply Turns.drewN | apply Turns.setCell | (apply Or.inr; simp; done) | (apply Or.inr; simp; omega) | exact fun _ hh => False.elim hh | exact fun _ hh => Or.inl hh | (intro i hi; right; (try simp only at hi); omega) | (intro i hi; right; simp at hi; omega) | refine Turns.step ?_ (by assumption) ?_))
      simp only [List.length_append, List.length_cons, List.length_nil, List.map_append, List.map_cons, List.map_nil]
      exact ownsRow_turns hown' T2 (fun g hg e => by have := Go.Proofs.YtefgcdpceeeeaaaW.PrintWords.own_base hown' g hg; omega)
  case done =>
    rintro D ys W hD rfl ⟨⟨v, hv, hrow, _⟩, hB⟩ hK
    have hc := hv.cell
    have B4 : Blk W b #[.int .i64 s, .int .i64 f, .int .i64 u] 60 := (hB.block b hbw).trans h3.blk
    obtain ⟨l4, c0, c1, c2, g0, g1, g2⟩ := B4.cells3
    gi_wp2
    have hD2 : w3.heap.size ≤ D := hD
    have hK' : (W.setCell ⟨b, 2, none⟩ (.int .i64 (u + m))).heap[D]? = some (.deferred (some [])) := (KeepsOthers.setCell W ⟨b, 2, none⟩ (.int .i64 (u + m))).same D _ hK rfl
    have T0 : Turns (· = b) W (W.setCell ⟨b, 2, none⟩ (.int .i64 (u + m))) := (by repeat' (first | exact Turns.refl _ _ | assumption | exact Or.inl rfl | exact Or.inr (Nat.le_refl _) | apply Turns.alloc | apply Turns.drew | apply Turns.drewN | apply Turns.setCell | (apply Or.inr; simp; done) | (apply Or.inr; simp; omega) | exact fun _ hh => False.elim hh | exact fun _ hh => Or.inl hh | (intro i hi; right; (try simp only at hi); omega) | (intro i hi; right; simp at hi; omega) | refine Turns.step ?_ (by assumption) ?_))
    have hrow' := ownsRow_turns hrow T0 (fun g hg e => by have := Go.Proofs.YtefgcdpceeeeaaaW.PrintWords.own_base hrow g hg; omega)
    have B5 : Blk (W.setCell ⟨b, 2, none⟩ (.int .i64 (u + m))) b #[.int .i64 s, .int .i64 f, .int .i64 (u + m)] 60 := by simpa using B4.set 2 (.int .i64 (u + m))
    have T1 : Turns (· = D) (W.setCell ⟨b, 2, none⟩ (.int .i64 (u + m))) ((W.setCell ⟨b, 2, none⟩ (.int .i64 (u + m))).putObj D (.deferred none)) := Turns.putObj _ _ _
    have T2 : Turns (· = b) w W := Turns.of_below (k3.none_below.trans hB)
    refine ⟨by simp, .inl ⟨_, _, rfl, run_takeDeferred hK', ?_⟩⟩
    refine ⟨_, results_tmp2 rfl _ _ _, v, rfl, ?_, ⟨B5.turns T1 (by intro hh; first | exact False.elim hh | ((try simp only at hh); omega) | (simp at hh; omega)), s0, f0, by omega⟩, Turns.step (Turns.step T2 T0 (fun _ hi => .inl hi)) T1 (fun i hi => .inr (by have e : i = D := hi; have := k3.size; omega))⟩
    have := Go.Proofs.YtefgcdpceeeeaaaW.PrintWords.own_weaken (ownsRow_putObj hrow' (.deferred none) hK' rfl) k3.size
    rw [upto_length] at this
    exact this
  case stop =>
    rintro D c pre W _ _ h _
    exact h.elim

end Go.Proofs.Ytefgcdpceeeeaaa
