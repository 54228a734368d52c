/- What Peek and Take do with a ring. -/
import Derived.Test.YtefgcdpceeeeaaaPut
set_option linter.unusedVariables false
namespace Go.Proofs.Ytefgcdpceeeeaaa
open Go.RowKit Go.Shelf
attribute [local go_sem] Oper.semAt_some

theorem Blk.own {A B : World} {row : Option Nat} {g n : Nat} {cs : Array Value} {t : TypeId} {P : Nat → Prop} (h : Blk A g cs t) (hg : A.grownBy B row) (hr : ∀ r, row = some r → n ≤ r ∧ P r) (hn : g < n) : Blk B g cs t :=
  (hg.block g h.lt (fun e => by have := (hr g e.symm).1; omega)).trans h

theorem ret_two (tmps : Array Value) (w : World) (g h : Nat) (x y : Int) (h4 : tmps[4]?.getD undef = .pointer (some ⟨g, 0, none⟩)) (h5 : tmps[5]?.getD undef = .pointer (some ⟨h, 0, none⟩)) (hg : Blk w g #[.int .i64 x] 3) (hh : Blk w h #[.int .i64 y] 25) :
    (results Try.f15 tmps).run Try.prog w = .ok (.tuple #[.int .i64 x, .int .i64 y]) w := by
  have c4 : w.cell? ⟨g, 0, none⟩ = some (.int .i64 x) := hg.cell 0
  have c5 : w.cell? ⟨h, 0, none⟩ = some (.int .i64 y) := hh.cell 0
  simp [results, Try.f15, go_sem, h4, h5, c4, c5]

set_option maxHeartbeats 400000 in
theorem peek_bad (p : Option Addr) (i u : Int) (w : World) (hu : ∀ W, Turns nobody w W → Calls Try.prog 14 #[.pointer p] W fun e w' => e = .returned (.int .i64 u) ∧ Turns nobody W w') (h : i < 0 ∨ u ≤ i) :
    Calls Try.prog 15 #[.pointer p, .int .i64 i] w fun e w' => e = .returned (.tuple #[.int .i64 0, .int .i64 6]) ∧ Turns nobody w w' := by
  have hu := hide hu
  rcases Int.lt_or_le i 0 with h0 | h0
  · go_enter Try.func15, Try.ntmps15
    go_wp2
    obtain ⟨B4, B5⟩ := boxes2 w #[.int .i64 0] #[.int .i64 6] 3 25
    refine bodyPost_ret (ret_two _ _ w.heap.size (w.heap.size + 1) 0 6 rfl rfl B4 B5) rfl ?_
    exact ⟨rfl, (by repeat' (first | exact Turns.refl _ _ | assumption | exact Or.inl rfl | exact Or.inr (Nat.le_refl _) | apply Turns.alloc | apply Turns.drew | apply Turns.drewN | apply Turns.setCell | (apply Or.inr; simp; done) | (apply Or.inr; simp; omega) | exact fun _ hh => False.elim hh | exact fun _ hh => Or.inl hh | (intro i hi; right; (try simp only at hi); omega) | (intro i hi; right; simp at hi; omega) | refine Turns.step ?_ (by assumption) ?_))⟩
  · have h1 : u ≤ i := by omega
    have e1 : ¬ i < u := by omega
    clear h
    go_enter Try.func15, Try.ntmps15
    go_wp2_with fail
    refine (hu.out _ (((Turns.refl _ w).alloc _).alloc _)).mono ?_
    rintro e w1 ⟨rfl, k1⟩
    obtain ⟨B4, B5⟩ := boxes2 w #[.int .i64 0] #[.int .i64 0] 3 25
    replace B4 := B4.turns k1 (by intro hh; first | exact False.elim hh | ((try simp only at hh); omega) | (simp at hh; omega))
    replace B5 := B5.turns k1 (by intro hh; first | exact False.elim hh | ((try simp only at hh); omega) | (simp at hh; omega))
    have c4 := B4.cell; have f4 := B4.frozen; have c5 := B5.cell; have f5 := B5.frozen
    have l4 := B4.lt; have l5 := B5.lt
    go_wp2_with fail
    refine bodyPost_ret (ret_two _ _ w.heap.size (w.heap.size + 1) 0 6 rfl rfl ?_ ?_) rfl ?_
    · exact Blk.other (p := ⟨w.heap.size + 1, 0, none⟩) (by simpa using B4.set 0 (.int .i64 0)) (by simp) _
    · simpa using (B5.other (p := ⟨w.heap.size, 0, none⟩) (by simp) (.int .i64 0)).set 0 (.int .i64 6)
    exact ⟨rfl, (by repeat' (first | exact Turns.refl _ _ | assumption | exact Or.inl rfl | exact Or.inr (Nat.le_refl _) | apply Turns.alloc | apply Turns.drew | apply Turns.drewN | apply Turns.setCell | (apply Or.inr; simp; done) | (apply Or.inr; simp; omega) | exact fun _ hh => False.elim hh | exact fun _ hh => Or.inl hh | (intro i hi; right; (try simp only at hi); omega) | (intro i hi; right; simp at hi; omega) | refine Turns.step ?_ (by assumption) ?_))⟩

set_option maxRecDepth 100000 in
set_option maxHeartbeats 2000000 in
theorem peek_ok {w : World} {b : Nat} {s f u : Int} (h : RG w b s f u) (i : Int) (hi0 : 0 ≤ i) (hi1 : i < u) :
    Calls Try.prog 15 #[.pointer (some ⟨b, 0, none⟩), .int .i64 i] w fun e w' => e = .returned (.tuple #[.int .i64 (placeOf s f i 0), .int .i64 0]) ∧ Turns nobody w w' := by
  have s0 := h.s0; have f0 := h.f0; have u0 := h.u0
  have e1 : ¬ i < 0 := by omega
  have e2 : decide (u ≤ i) = false := by simp; omega
  have hbw := h.lt
  refine (callsIn_wide (n := 6)).1 ?_
  refine callsIn_of_wp_marks Try.func15 rfl trivial ?_ rfl
  simp only [Try.ntmps15, List.size_toArray, List.length_cons, List.length_nil, Nat.reduceAdd, Nat.reduceSub, Array.replicate_succ, Array.replicate_zero, List.push_toArray, List.append_toArray, List.nil_append, List.cons_append]
  gi_wp2_with fail
  obtain ⟨B4, B5⟩ := boxes2 w #[.int .i64 0] #[.int .i64 0] 3 25
  have k0 : Turns nobody w ((w.alloc (.cells #[.int .i64 0] 3)).alloc (.cells #[.int .i64 0] 25)) := ((Turns.refl _ w).alloc _).alloc _
  refine ⟨trivial, (callsIn_wide.2 (used_at (h.still k0).blk)).mono ?_⟩
  rintro e w2 ⟨rfl, k2⟩
  replace B4 := B4.turns k2 (by intro hh; first | exact False.elim hh | ((try simp only at hh); omega) | (simp at hh; omega))
  replace B5 := B5.turns k2 (by intro hh; first | exact False.elim hh | ((try simp only at hh); omega) | (simp at hh; omega))
  have k12 : Turns nobody w w2 := k0.trans k2
  have l5 := B5.lt
  gi_wp2_with fail
  refine ⟨trivial, (callsIn_wide.2 (round_in 6 (some ⟨b, 0, none⟩) i 1 _)).mono ?_⟩
  rintro e w3 ⟨rfl, e3⟩
  try simp only [World.size_alloc] at e3
  have bR := Boxed.new w2 24 (.pointer (some ⟨b, 0, none⟩))
  have bI := Boxed.new (w2.alloc (.cells #[.pointer (some ⟨b, 0, none⟩)] 24)) 3 (.int .i64 i)
  have bN := Boxed.new ((w2.alloc (.cells #[.pointer (some ⟨b, 0, none⟩)] 24)).alloc (.cells #[.int .i64 i] 3)) 3 (.int .i64 1)
  replace bR := (bR.alloc (.cells #[.int .i64 i] 3)).alloc (.cells #[.int .i64 1] 3)
  replace bI := bI.alloc (.cells #[.int .i64 1] 3)
  rw [← e3] at bR bI bN
  simp only [World.size_alloc] at bI bN
  have k23 : Turns nobody w2 w3 := by rw [e3]; exact (((Turns.refl _ w2).alloc _).alloc _).alloc _
  have k3 : Turns nobody w w3 := k12.trans k23
  replace B4 := B4.turns k23 (by intro hh; first | exact False.elim hh | ((try simp only at hh); omega) | (simp at hh; omega))
  replace B5 := B5.turns k23 (by intro hh; first | exact False.elim hh | ((try simp only at hh); omega) | (simp at hh; omega))
  have h3 : RG w3 b s f u := h.still k3
  obtain ⟨l3, d0, d1, d2, gg0, gg1, gg2⟩ := h3.blk.cells3
  have hw3 : w2.heap.size + 3 ≤ w3.heap.size := by rw [e3]; simp
  clear e3
  gi_wp2_with fail
  refine wpIn_rangeFunc_ownF (n := 6) rfl (by omega) (gf := 26) (lb := #[.pointer (some ⟨w2.heap.size + 2, 0, none⟩), .pointer (some ⟨w2.heap.size, 0, none⟩), .pointer (some ⟨w2.heap.size + 1, 0, none⟩)]) rfl trivial (enters_of Try.func26 (by kernel_rfl) rfl)
    (round_stops 5 (w2.heap.size + 2) w2.heap.size (w2.heap.size + 1) b 1 s f i s0 f0 (by omega) (by omega) w3 bN.cell bR.cell bI.cell d0 d1)
    (fun h k => h.trans k) (fun W l o o' hl _ _ _ => Keeps.putObj W l o' (fun g hg e => by rcases hg with hg | hg | hg | hg <;> omega)) (Below.refl _ _) (fun _ => rfl)
    (fun (pre : List Int) W => (Blk W w.heap.size #[.int .i64 0] 3 ∧ Blk W (w.heap.size + 1) #[.int .i64 0] 25) ∧ (pre = [] ∧ Below w.heap.size w3 W))
    (fun c (pre : List Int) W => (∃ x, (c = .ret ∧ pre = [x]) ∧ Blk W w.heap.size #[.int .i64 x] 3 ∧ Blk W (w.heap.size + 1) #[.int .i64 0] 25) ∧ Below w.heap.size w3 W)
    (fun pre A B row hs hg hr => ⟨⟨hs.1.1.own hg hr (by omega), hs.1.2.own hg hr (by omega)⟩, hs.2.1, ownFrom_below k3.size k3.size pre A B row hs.2.2 hg hr⟩)
    (fun _ => OwnFrom.and (fun _ A B row hs hg hr => by obtain ⟨x, hx, C4, C5⟩ := hs; exact ⟨x, hx, C4.own hg hr (by omega), C5.own hg hr (by omega)⟩) (ownFrom_below k3.size k3.size))
    ⟨⟨B4, B5⟩, rfl, Below.refl _ _⟩
    (fun x => { tmps := #[.pointer (some ⟨b, 0, none⟩), .int .i64 i, undef, undef, .pointer (some ⟨w.heap.size, 0, none⟩), .pointer (some ⟨w.heap.size + 1, 0, none⟩), .int .i64 x, .int .i64 i, .bool false, .bool false, .int .i64 i, .pointer (some ⟨b, 0, none⟩), .int .i64 u, .bool false, .bool false, .pointer (some ⟨b, 0, none⟩), .int .i64 i, .func (.func 26) #[] #[.pointer (some ⟨w2.heap.size + 2, 0, none⟩), .pointer (some ⟨w2.heap.size, 0, none⟩), .pointer (some ⟨w2.heap.size + 1, 0, none⟩)], .int .i64 x, undef], defers := [] }) ?assign ?body ?done ?stop
  case assign =>
    intro l x W K hK
    gi_wp2
    exact hK
  case body =>
    rintro l pre x W ⟨⟨C4, C5⟩, rfl, hB⟩ hlt
    have c4 := C4.cell; have f4 := C4.frozen; have c5 := C5.cell; have f5 := C5.frozen
    have l4 := C4.lt; have l5' := C5.lt
    gi_wp2
    refine ⟨(KeepsOthers.setCell _ _ _).trans (KeepsOthers.setCell _ _ _), ⟨x, ⟨rfl, rfl⟩, ?_, ?_⟩, hB.trans (((Below.refl _ W).setCell (p := ⟨w.heap.size, 0, none⟩) (Nat.le_refl _) _).setCell (p := ⟨w.heap.size + 1, 0, none⟩) (by simp) _)⟩
    · exact Blk.other (p := ⟨w.heap.size + 1, 0, none⟩) (by simpa using C4.set 0 (.int .i64 x)) (by simp) _
    · simpa using (C5.other (p := ⟨w.heap.size, 0, none⟩) (by simp) (.int .i64 x)).set 0 (.int .i64 0)
  case done =>
    rintro D ys W hD rfl ⟨_, hnil, _⟩ hK
    simp [upto] at hnil
  case stop =>
    rintro D c pre W hD ⟨k, hk, rfl⟩ ⟨⟨x, ⟨rfl, hp⟩, C4, C5⟩, hB⟩ hK
    obtain rfl : k = 1 := by
      have := congrArg List.length hp
      simpa [upto_length] using this
    obtain rfl : placeOf s f i 0 = x := by simpa [upto] using hp
    have hD2 : w3.heap.size ≤ D := hD
    have T1 : Turns (· = D) W (W.putObj D (.deferred none)) := Turns.putObj _ _ _
    have T2 : Turns nobody w W := Turns.of_below (k3.none_below.trans hB)
    gi_wp2
    refine ⟨by simp, .inl ⟨_, _, rfl, run_takeDeferred hK, ?_⟩⟩
    exact ⟨_, ret_two _ _ w.heap.size (w.heap.size + 1) (placeOf s f i 0) 0 rfl rfl (C4.turns T1 (by intro hh; first | exact False.elim hh | ((try simp only at hh); omega) | (simp at hh; omega))) (C5.turns T1 (by intro hh; first | exact False.elim hh | ((try simp only at hh); omega) | (simp at hh; omega))), rfl, Turns.step T2 T1 (fun j hj => .inr (by have e : j = D := hj; have := k3.size; omega))⟩

end Go.Proofs.Ytefgcdpceeeeaaa
