/- The walk of the law 'RingPlays'. -/
import Derived.Test.YtefgcdpceeeeaaaRefs
import Derived.Deep.MidRow
set_option linter.unusedVariables false
namespace Go.Proofs.Ytefgcdpceeeeaaa
open Go.RowKit Go.Proofs.YtefgcdpceeeeaaaW.PrintWords

section
variable {P : Program} {ops : Array Oper} {rest : List Oper} {op : Oper} {a : Act} {w : World} {K : Act → World → Prop} {Q : Exit → Act → World → Prop}
theorem turns_setCells {g o : Nat} (vs : List Value) (w : World) : Turns (· = g) w (w.setCells g o vs) := by
  obtain ⟨h1, h2, h3, h4⟩ := setCells_same g vs o w
  exact ⟨h1, h2, h3, Nat.le_of_eq h4.symm, fun k _ hn => setCells_far vs o k hn⟩
theorem wp_store_whole (ty : TypeId) (x y : Operand) (ho : op.op = .store ty x y) (g : Nat) (cur cells : Array Value) (t : TypeId) (hx : a.eval x = .pointer (some ⟨g, 0, none⟩)) (hy : a.eval y = .agg cells)
    (hB : Blk w g cur t) (hs : cur.size = cells.size) (hi : (P.info? ty).map (·.size) = some cells.size) (h1 : cells.all (·.oneCell') = true)
    (h : ∀ w', Blk w' g cells t → Turns (· = g) w w' → K (a.put op.dst undef) w') : op.wp P a w K Q := by
  refine wp_store_mid ty x y ho g 0 cells hx hy (fun j hj => ⟨by rw [Nat.zero_add, hB.cell]; simp; omega, by rw [Nat.zero_add]; exact hB.frozen j⟩) hi h1 ?_
  obtain ⟨cur', h2, h3, h4⟩ := setCells_row cells.toList 0 w cur hB (by simp; omega)
  refine h _ ?_ (turns_setCells _ _)
  have : cur' = cells := by
    apply Array.ext'
    rw [h4]
    simp
    omega
  rw [this] at h2
  exact h2
theorem wpList_store_whole (hgd : op.guard = none) (ty : TypeId) (x y : Operand) (ho : op.op = .store ty x y) (g : Nat) (cur cells : Array Value) (t : TypeId) (hx : a.eval x = .pointer (some ⟨g, 0, none⟩)) (hy : a.eval y = .agg cells)
    (hB : Blk w g cur t) (hs : cur.size = cells.size) (hi : (P.info? ty).map (·.size) = some cells.size) (h1 : cells.all (·.oneCell') = true)
    (h : ∀ w', Blk w' g cells t → Turns (· = g) w w' → wpList P ops Q rest (a.put op.dst undef) w') : wpList P ops Q (op :: rest) a w :=
  wpList_plain hgd fun _ hK => wp_store_whole ty x y ho g cur cells t hx hy hB hs hi h1 fun w' h2 h3 => hK _ _ (h w' h2 h3)
end

theorem Try.cells48 : Try.prog.cellsOf 48 = 2 := by kernel_rfl
theorem Try.cells3 : Try.prog.cellsOf 3 = 1 := by kernel_rfl
theorem list2 {α : Type} {l : List α} (h : l.length = 2) : ∃ a b, l = [a, b] := by
  match l, h with
  | [a, b], _ => exact ⟨a, b, rfl⟩
/-- The deeds that are handed in. -/
theorem open_deeds {w : World} {n : Nat} {A : Option Addr} {len cap : Nat} (hf : Fits Try.prog w n 42 [.slice A len cap]) : len ≤ cap ∧ cap ≤ maxLen ∧
    ∀ i, i < len → ∃ b o, ∃ q m : Int, A = some ⟨b, o, none⟩ ∧ b < w.heap.size ∧ (-9223372036854775808 ≤ m ∧ m ≤ 9223372036854775807) ∧ w.cell? ⟨b, o + i * 2, none⟩ = some (.int .i64 q) ∧ w.cell? ⟨b, o + i * 2 + 1, none⟩ = some (.int .i64 m) := by
  obtain ⟨A', len', cap', he', hl, hm, _, h⟩ := hf.slice Try.underlying42 (by rw [Try.cells48]; decide)
  simp at he'
  obtain ⟨rfl, rfl, rfl⟩ := he'
  refine ⟨hl, hm, fun i hi => ?_⟩
  obtain ⟨b, o, xs, m, hA, hcell, hx⟩ := h i hi
  obtain ⟨hxl, hff⟩ := hx.struct Try.underlying48
  rw [Try.cells48] at hxl hcell
  obtain ⟨c0, c1, rfl⟩ := list2 hxl
  obtain ⟨m0, f0⟩ := hff 0 _ rfl
  obtain ⟨m1, f1⟩ := hff 1 _ rfl
  simp [Try.cells3] at f0 f1
  obtain ⟨q, h0, w0⟩ := f0.int Try.underlying3
  obtain ⟨j, h1, w1⟩ := f1.int Try.underlying3
  simp at h0 h1
  subst h0 h1
  exact ⟨b, o, q, j, hA, block_lt_of_cell (hcell 0 _ rfl), bounds_i64 w1, hcell 0 _ rfl, hcell 1 _ rfl⟩
theorem ints_n {w : World} {A B : Option Addr} {xs : List Int} {n : Nat} (hn : xs.length = n) (c c' : Nat) (hA : IntsAt w A xs) (hB : IntsAt w B xs) (hl : n ≤ 9223372036854775806) :
    Calls Try.prog 19 #[.slice A n c, .slice B n c'] w fun e w' => e = .returned (.bool true) ∧ Turns nobody w w' := by
  subst hn
  exact ints_same c c' hA hB hl
theorem ints_nil (w : World) (A : Option Addr) : IntsAt w A [] := fun j x hx => by simp at hx

theorem placeOf_peek (s o m : Int) : placeOf s (o % s) m 0 = (o + m) % s := by
  unfold placeOf
  rw [show o % s + m + ((0 : Nat) : Int) = o % s + m by omega, Int.emod_add_emod]

set_option maxHeartbeats 8000000 in
set_option maxRecDepth 100000 in
theorem ringPlays_walk (s : Int) (A : Option Addr) (len cap : Nat) (w : World) {n : Nat} (ws : (Lit.int .i64 s).wf = true) (hf : Fits Try.prog w n 42 [.slice A len cap]) :
    Calls Try.prog 7 #[.int .i64 s, .slice A len cap] w fun e w' => e = .returned (.bool true) ∧ Below w.heap.size w w' := by
  obtain ⟨hlc, hcm, hd⟩ := open_deeds hf
  unfold maxLen at hcm
  clear ws hf
  replace hd := hide hd
  by_cases hs : s < 2 ∨ 64 < s
  · replace hs := hide hs
    go_enter Try.func7, Try.ntmps7
    go_wp2_with fail
    refine (shown_at _).mono ?_
    rintro e w1 ⟨rfl, k1⟩
    go_wp2_with fail
    refine (new_bad s _ hs.out).mono ?_
    rintro e w2 ⟨rfl, k2⟩
    go_wp2_with fail
    refine (rnew_bad s _ hs.out).mono ?_
    rintro e w3 ⟨rfl, k3⟩
    go_wp2_with fail
    refine (size_nil _).mono ?_
    rintro e w4 ⟨rfl, k4⟩
    go_wp2_with fail
    refine (used_nil _).mono ?_
    rintro e w5 ⟨rfl, k5⟩
    go_wp2_with fail
    go_returns
    exact ⟨rfl, Turns.none_below (((((k1.trans k2).trans k3).alloc _).trans k4).trans k5)⟩
  · have s0 : 2 ≤ s := by omega
    have s1 : s ≤ 64 := by omega
    clear hs
    go_enter Try.func7, Try.ntmps7
    go_wp2_with fail
    refine (shown_at _).mono ?_
    rintro e w1 ⟨rfl, k1⟩
    go_wp2_with fail
    refine (new_ok s _ s0 s1).mono ?_
    rintro e w2 ⟨rfl, R2, k2⟩
    go_wp2_with fail
    refine (rnew_ok s _ s0 s1).mono ?_
    rintro e w3 ⟨rfl, k3⟩
    have l1 := k1.size
    have l2 := R2.lt
    have l3 := k3.size
    obtain ⟨xb, hxb⟩ : ∃ xb, xb = w3.heap.size := ⟨_, rfl⟩
    have X3 : Blk (w3.alloc (.cells #[.int .i64 s, .int .i64 0, .int .i64 0] 44)) xb #[.int .i64 s, .int .i64 0, .int .i64 0] 44 := by rw [hxb]; exact Blk.new _ _ _
    have K3 := ((k1.trans k2).trans k3).alloc (.cells #[.int .i64 s, .int .i64 0, .int .i64 0] 44)
    have R3 : RG (w3.alloc (.cells #[.int .i64 s, .int .i64 0, .int .i64 0] 44)) w1.heap.size s (0 % s) (0 - 0) := by
      rw [Int.zero_emod, Int.sub_zero]
      exact (R2.still k3).still ((Turns.refl nobody _).alloc _)
    have lx : w1.heap.size < xb := by omega
    have lx0 : w.heap.size ≤ xb := by omega
    replace hxb := hide hxb
    clear R2 k2 k3 l3
    go_wp2_with fail
    rw [← hxb.out]
    go_loopw [10] (fun x wr => ∃ (k : Nat) (i o : Int), k ≤ len ∧ k ≤ 300 ∧ x = .int .i64 k ∧ RN s i o ∧ i ≤ 64 * (k : Int) ∧ RG wr w1.heap.size s (o % s) (i - o) ∧ Blk wr xb #[.int .i64 s, .int .i64 i, .int .i64 o] 44 ∧ Turns nobody w wr) (fun x _ => len - (intOf x).toNat)
    case atStart => exact ⟨0, 0, 0, Nat.zero_le _, Nat.zero_le _, rfl, ⟨⟨s0, s1⟩, by omega, by omega, by omega⟩, by omega, R3, X3, K3⟩
    case round =>
      clear X3 K3 R3
      obtain ⟨k, i, o, hk, hk3, rfl, N, hi64, R, X, K⟩ := hrel
      have cX := X.cell
      have fX := X.frozen
      have lX := X.lt
      by_cases hlk : k < len
      · by_cases hl3 : k < 300
        · obtain ⟨b3, o3, q, m, rfl, hb3, hm, e1, e2⟩ := hd.out k hlk
          have c1 := (K.none_below.cell (by exact hb3)).trans e1
          have c2 := (K.none_below.cell (by exact hb3)).trans e2
          have lb3 : b3 < wr.heap.size := by have := K.size; omega
          clear e1 e2
          have i0' : (0 : Int) ≤ (k : Int) := by omega
          have i1' : (k : Int) < (len : Int) := by omega
          have i2' : (k : Int) < 300 := by omega
          have hN := N
          obtain ⟨_, ⟨v1, v2⟩, v3, v4⟩ := hN
          have hN := hide N
          by_cases q0 : q = 0
          · subst q0
            by_cases m1 : m < 1
            · skip
              go_wp2_with fail
              refine (put_arg _ m _ m1).mono ?_
              rintro e w4 ⟨rfl, k4⟩
              have X4 := X.turns k4 (by intro hh; first | exact False.elim hh | ((try simp only at hh); omega) | (simp at hh; omega))
              have cX4 := X4.cell
              have fX4 := X4.frozen
              clear cX fX c1 c2
              go_wp2_with fail
              refine (rput_arg s i o m _ m1).mono ?_
              rintro e w5 ⟨rfl, k5⟩
              have K5 := (K.trans k4).trans k5
              have R5 := (R.still k4).still k5
              have X5 := X4.turns k5 (by intro hh; first | exact False.elim hh | ((try simp only at hh); omega) | (simp at hh; omega))
              have lX5 := X5.lt
              have lR5 := R5.lt
              clear cX4 fX4 R X X4
              go_wp2_with (refine wpList_store_whole rfl 44 (.tmp 8) (.tmp 124) (by rfl) xb _ #[.int .i64 s, .int .i64 i, .int .i64 o] 44 (by rfl) (by rfl) (X5.alloc _) rfl Try.info44 (by simp [Value.oneCell']) ?_; intro w9 X9 k9)
              have K9 : Turns nobody w w9 := Turns.step (K5.alloc _) k9 (fun j hj => .inr (by omega))
              have R9 := (RG.turns ⟨R5.blk.alloc (.cells #[.int .i64 s, .int .i64 i, .int .i64 o] 44), R5.s0, R5.f0, R5.u0⟩ k9 (by omega) : RG w9 _ _ _ _)
              go_wp2_with fail
              refine (ints_n (n := 0) (xs := []) rfl 0 0 (ints_nil _ _) (ints_nil _ _) (by decide)).mono ?_
              rintro e w6 ⟨rfl, k6⟩
              replace K9 := K9.trans k6
              replace R9 := R9.still k6
              replace X9 := X9.turns k6 (by intro hh; first | exact False.elim hh | ((try simp only at hh); omega) | (simp at hh; omega))
              have N9 := hN.out
              have hR := hide R9
              have hX := hide X9
              have hN := hide N9
              have qR := fun (p : Later w6) => hR.out.still p.h
              have qX := fun (p : Later w6) => (hX.out.turns p.h (fun hh => hh.elim)).cell
              clear R9 X9 N9
              go_wp2_with fail
              try simp only [Act.put]
              refine wp_region_later (by kernel_rfl) (by kernel_rfl) ?_
              repeat (go_big_quiet_step ((first | (go_at_call 14; exact Later.calls (used_at (qR _).blk)) | (go_at_call 24; exact Later.calls (rused _ _ _ _ hN.out)) | (go_at_call 16; exact Later.calls (size_at (qR _).blk)))))
              refine wpQuiet_nil ?_
              rintro wz ⟨⟨wz0, kz⟩, ez⟩
              obtain rfl : wz = wz0 := ez
              clear qR qX
              go_wp2_with fail
              go_roundw
              case rel => exact ⟨k + 1, i, o, by omega, by omega, by go_num, hN.out, by omega, hR.out.still kz, hX.out.turns kz (fun hh => hh.elim), K9.trans kz⟩
              case measure => simp [intOf]; omega
            · by_cases m2 : s - (i - o) < m
              · skip
                go_wp2_with fail
                refine (put_full R.blk (by omega) (by omega) m (by omega) (by omega)).mono ?_
                rintro e w4 ⟨rfl, k4⟩
                have X4 := X.turns k4 (by intro hh; first | exact False.elim hh | ((try simp only at hh); omega) | (simp at hh; omega))
                have cX4 := X4.cell
                have fX4 := X4.frozen
                clear cX fX c1 c2
                go_wp2_with fail
                refine (rput_full s i o m _ hN.out (by omega) (by omega) hm.2).mono ?_
                rintro e w5 ⟨rfl, k5⟩
                have K5 := (K.trans k4).trans k5
                have R5 := (R.still k4).still k5
                have X5 := X4.turns k5 (by intro hh; first | exact False.elim hh | ((try simp only at hh); omega) | (simp at hh; omega))
                have lX5 := X5.lt
                have lR5 := R5.lt
                clear cX4 fX4 R X X4
                go_wp2_with (refine wpList_store_whole rfl 44 (.tmp 8) (.tmp 124) (by rfl) xb _ #[.int .i64 s, .int .i64 i, .int .i64 o] 44 (by rfl) (by rfl) (X5.alloc _) rfl Try.info44 (by simp [Value.oneCell']) ?_; intro w9 X9 k9)
                have K9 : Turns nobody w w9 := Turns.step (K5.alloc _) k9 (fun j hj => .inr (by omega))
                have R9 := (RG.turns ⟨R5.blk.alloc (.cells #[.int .i64 s, .int .i64 i, .int .i64 o] 44), R5.s0, R5.f0, R5.u0⟩ k9 (by omega) : RG w9 _ _ _ _)
                go_wp2_with fail
                refine (ints_n (n := 0) (xs := []) rfl 0 0 (ints_nil _ _) (ints_nil _ _) (by decide)).mono ?_
                rintro e w6 ⟨rfl, k6⟩
                replace K9 := K9.trans k6
                replace R9 := R9.still k6
                replace X9 := X9.turns k6 (by intro hh; first | exact False.elim hh | ((try simp only at hh); omega) | (simp at hh; omega))
                have N9 := hN.out
                have hR := hide R9
                have hX := hide X9
                have hN := hide N9
                have qR := fun (p : Later w6) => hR.out.still p.h
                have qX := fun (p : Later w6) => (hX.out.turns p.h (fun hh => hh.elim)).cell
                clear R9 X9 N9
                go_wp2_with fail
                try simp only [Act.put]
                refine wp_region_later (by kernel_rfl) (by kernel_rfl) ?_
                repeat (go_big_quiet_step ((first | (go_at_call 14; exact Later.calls (used_at (qR _).blk)) | (go_at_call 24; exact Later.calls (rused _ _ _ _ hN.out)) | (go_at_call 16; exact Later.calls (size_at (qR _).blk)))))
                refine wpQuiet_nil ?_
                rintro wz ⟨⟨wz0, kz⟩, ez⟩
                obtain rfl : wz = wz0 := ez
                clear qR qX
                go_wp2_with fail
                go_roundw
                case rel => exact ⟨k + 1, i, o, by omega, by omega, by go_num, hN.out, by omega, hR.out.still kz, hX.out.turns kz (fun hh => hh.elim), K9.trans kz⟩
                case measure => simp [intOf]; omega
              · obtain ⟨M, rfl⟩ : ∃ M : Nat, m = M := ⟨m.toNat, by omega⟩
                have M1 : 1 ≤ M := by omega
                have M2 : (M : Int) ≤ 64 := by omega
                have lR := R.lt
                go_wp2_with fail
                refine (put_ok R M M1 (by omega)).mono ?_
                rintro e w4 ⟨v, rfl, q4, R4, k4⟩
                obtain ⟨A4, c4, rfl, I4, n4⟩ := ints_of_row q4 (upto_length _ _ _ _)
                have X4 := X.turns k4 (by omega)
                have cX4 := X4.cell
                have fX4 := X4.frozen
                have K4 : Turns nobody w w4 := Turns.step K k4 (fun j hj => .inr (by have e : j = w1.heap.size := hj; omega))
                have s4 := k4.size
                clear cX fX c1 c2 q4 R X
                go_wp2_with fail
                refine (rput_ok s i o M _ hN.out M1 (by omega)).mono ?_
                rintro e w5 ⟨A5, c5, rfl, I5, n5, k5⟩
                have K5 := K4.trans k5
                have R5 := R4.still k5
                rw [show i - o + (M : Int) = i + M - o by omega] at R5
                have X5 := X4.turns k5 (by intro hh; first | exact False.elim hh | ((try simp only at hh); omega) | (simp at hh; omega))
                have lX5 := X5.lt
                have lR5 := R5.lt
                have I6 := I4.still k5
                have N9 : RN s (i + M) o := ⟨⟨s0, s1⟩, ⟨v1, by omega⟩, by omega, by omega⟩
                replace N9 := hide N9
                clear cX4 fX4 X4 R4 I4
                go_wp2_with (refine wpList_store_whole rfl 44 (.tmp 8) (.tmp 124) (by rfl) xb _ #[.int .i64 s, .int .i64 (i + M), .int .i64 o] 44 (by rfl) (by rfl) (X5.alloc _) rfl Try.info44 (by simp [Value.oneCell']) ?_; intro w9 X9 k9)
                have K9 : Turns nobody w w9 := Turns.step (K5.alloc _) k9 (fun j hj => .inr (by omega))
                have R9 := (RG.turns ⟨R5.blk.alloc (.cells #[.int .i64 s, .int .i64 (i + M), .int .i64 o] 44), R5.s0, R5.f0, R5.u0⟩ k9 (by omega) : RG w9 _ _ _ _)
                have J4 := (I6.still ((Turns.refl nobody w5).alloc (.cells #[.int .i64 s, .int .i64 (i + M), .int .i64 o] 44))).turns k9 (fun a ha e => by have := n4 a ha; omega)
                have J5 := (I5.still ((Turns.refl nobody w5).alloc (.cells #[.int .i64 s, .int .i64 (i + M), .int .i64 o] 44))).turns k9 (fun a ha e => by have := n5 a ha; omega)
                clear I5 I6
                go_wp2_with fail
                refine (ints_n (upto_length _ _ _ _) c4 c5 J4 J5 (by omega)).mono ?_
                rintro e w6 ⟨rfl, k6⟩
                replace K9 := K9.trans k6
                replace R9 := R9.still k6
                replace X9 := X9.turns k6 (by intro hh; first | exact False.elim hh | ((try simp only at hh); omega) | (simp at hh; omega))
                replace N9 := N9.out
                clear J4 J5
                have hR := hide R9
                have hX := hide X9
                have hN := hide N9
                have qR := fun (p : Later w6) => hR.out.still p.h
                have qX := fun (p : Later w6) => (hX.out.turns p.h (fun hh => hh.elim)).cell
                clear R9 X9 N9
                go_wp2_with fail
                try simp only [Act.put]
                refine wp_region_later (by kernel_rfl) (by kernel_rfl) ?_
                repeat (go_big_quiet_step ((first | (go_at_call 14; exact Later.calls (used_at (qR _).blk)) | (go_at_call 24; exact Later.calls (rused _ _ _ _ hN.out)) | (go_at_call 16; exact Later.calls (size_at (qR _).blk)))))
                refine wpQuiet_nil ?_
                rintro wz ⟨⟨wz0, kz⟩, ez⟩
                obtain rfl : wz = wz0 := ez
                clear qR qX
                go_wp2_with fail
                go_roundw
                case rel => exact ⟨k + 1, (i + M), o, by omega, by omega, by go_num, hN.out, by omega, hR.out.still kz, hX.out.turns kz (fun hh => hh.elim), K9.trans kz⟩
                case measure => simp [intOf]; omega
          · have q0b : (q == 0) = false := beq_eq_false_iff_ne.2 q0
            by_cases q1 : q = 1
            · subst q1
              clear q0 q0b
              by_cases u1 : 0 < i - o
              · have lR := R.lt
                go_wp2_with fail
                refine (take_ok R u1).mono ?_
                rintro e w4 ⟨rfl, R4, k4⟩
                have X4 := X.turns k4 (by omega)
                have cX4 := X4.cell
                have fX4 := X4.frozen
                have K4 : Turns nobody w w4 := Turns.step K k4 (fun j hj => .inr (by have e : j = w1.heap.size := hj; omega))
                clear cX fX c1 c2 R X
                go_wp2_with fail
                refine (rtake_ok s i o _ hN.out u1).mono ?_
                rintro e w5 ⟨rfl, k5⟩
                have K5 := K4.trans k5
                have R5 := R4.still k5
                rw [Int.emod_add_emod, show i - o - 1 = i - (o + 1) by omega] at R5
                have X5 := X4.turns k5 (by intro hh; first | exact False.elim hh | ((try simp only at hh); omega) | (simp at hh; omega))
                have lX5 := X5.lt
                have lR5 := R5.lt
                have N9 : RN s i (o + 1) := ⟨⟨s0, s1⟩, ⟨by omega, by omega⟩, by omega, by omega⟩
                replace N9 := hide N9
                clear cX4 fX4 X4 R4
                go_wp2_with (refine wpList_store_whole rfl 44 (.tmp 8) (.tmp 147) (by rfl) xb _ #[.int .i64 s, .int .i64 i, .int .i64 (o + 1)] 44 (by rfl) (by rfl) (X5.alloc _) rfl Try.info44 (by simp [Value.oneCell']) ?_; intro w9 X9 k9)
                have K9 : Turns nobody w w9 := Turns.step (K5.alloc _) k9 (fun j hj => .inr (by omega))
                have R9 := (RG.turns ⟨R5.blk.alloc (.cells #[.int .i64 s, .int .i64 i, .int .i64 (o + 1)] 44), R5.s0, R5.f0, R5.u0⟩ k9 (by omega) : RG w9 _ _ _ _)
                replace N9 := N9.out
                have hR := hide R9
                have hX := hide X9
                have hN := hide N9
                have qR := fun (p : Later w9) => hR.out.still p.h
                have qX := fun (p : Later w9) => (hX.out.turns p.h (fun hh => hh.elim)).cell
                clear R9 X9 N9
                go_wp2_with fail
                try simp only [Act.put]
                refine wp_region_later (by kernel_rfl) (by kernel_rfl) ?_
                repeat (go_big_quiet_step ((first | (go_at_call 14; exact Later.calls (used_at (qR _).blk)) | (go_at_call 24; exact Later.calls (rused _ _ _ _ hN.out)) | (go_at_call 16; exact Later.calls (size_at (qR _).blk)))))
                refine wpQuiet_nil ?_
                rintro wz ⟨⟨wz0, kz⟩, ez⟩
                obtain rfl : wz = wz0 := ez
                clear qR qX
                go_wp2_with fail
                go_roundw
                case rel => exact ⟨k + 1, i, (o + 1), by omega, by omega, by go_num, hN.out, by omega, hR.out.still kz, hX.out.turns kz (fun hh => hh.elim), K9.trans kz⟩
                case measure => simp [intOf]; omega
              · have R' : RG wr w1.heap.size s (o % s) 0 := by rw [show i - o = 0 by omega] at R; exact R
                go_wp2_with fail
                refine (take_none R').mono ?_
                rintro e w4 ⟨rfl, k4⟩
                have X4 := X.turns k4 (by intro hh; first | exact False.elim hh | ((try simp only at hh); omega) | (simp at hh; omega))
                have cX4 := X4.cell
                have fX4 := X4.frozen
                clear cX fX c1 c2
                go_wp2_with fail
                refine (rtake_none s i o _ hN.out (by omega)).mono ?_
                rintro e w5 ⟨rfl, k5⟩
                have K5 := (K.trans k4).trans k5
                have R5 := (R.still k4).still k5
                have X5 := X4.turns k5 (by intro hh; first | exact False.elim hh | ((try simp only at hh); omega) | (simp at hh; omega))
                have lX5 := X5.lt
                have lR5 := R5.lt
                clear cX4 fX4 R X X4 R'
                go_wp2_with (refine wpList_store_whole rfl 44 (.tmp 8) (.tmp 147) (by rfl) xb _ #[.int .i64 s, .int .i64 i, .int .i64 o] 44 (by rfl) (by rfl) (X5.alloc _) rfl Try.info44 (by simp [Value.oneCell']) ?_; intro w9 X9 k9)
                have K9 : Turns nobody w w9 := Turns.step (K5.alloc _) k9 (fun j hj => .inr (by omega))
                have R9 := (RG.turns ⟨R5.blk.alloc (.cells #[.int .i64 s, .int .i64 i, .int .i64 o] 44), R5.s0, R5.f0, R5.u0⟩ k9 (by omega) : RG w9 _ _ _ _)
                have N9 := hN.out
                have hR := hide R9
                have hX := hide X9
                have hN := hide N9
                have qR := fun (p : Later w9) => hR.out.still p.h
                have qX := fun (p : Later w9) => (hX.out.turns p.h (fun hh => hh.elim)).cell
                clear R9 X9 N9
                go_wp2_with fail
                try simp only [Act.put]
                refine wp_region_later (by kernel_rfl) (by kernel_rfl) ?_
                repeat (go_big_quiet_step ((first | (go_at_call 14; exact Later.calls (used_at (qR _).blk)) | (go_at_call 24; exact Later.calls (rused _ _ _ _ hN.out)) | (go_at_call 16; exact Later.calls (size_at (qR _).blk)))))
                refine wpQuiet_nil ?_
                rintro wz ⟨⟨wz0, kz⟩, ez⟩
                obtain rfl : wz = wz0 := ez
                clear qR qX
                go_wp2_with fail
                go_roundw
                case rel => exact ⟨k + 1, i, o, by omega, by omega, by go_num, hN.out, by omega, hR.out.still kz, hX.out.turns kz (fun hh => hh.elim), K9.trans kz⟩
                case measure => simp [intOf]; omega
            · have q1b : (q == 1) = false := beq_eq_false_iff_ne.2 q1
              by_cases q2 : q = 2
              · subst q2
                clear q0 q0b q1 q1b
                have lR := R.lt
                go_wp2_with fail
                refine (clear_at R).mono ?_
                rintro e w4 ⟨rfl, R4, k4⟩
                have X4 := X.turns k4 (by omega)
                have cX4 := X4.cell
                have fX4 := X4.frozen
                have lX4 := X4.lt
                have K4 : Turns nobody w w4 := Turns.step K k4 (fun j hj => .inr (by have e : j = w1.heap.size := hj; omega))
                clear cX fX c1 c2 R X
                go_wp2_with (refine wpList_store_whole rfl 44 (.tmp 8) (.tmp 162) (by rfl) xb _ #[.int .i64 s, .int .i64 0, .int .i64 0] 44 (by rfl) (by rfl) X4 rfl Try.info44 (by simp [Value.oneCell']) ?_; intro w9 X9 k9)
                have K9 : Turns nobody w w9 := Turns.step K4 k9 (fun j hj => .inr (by omega))
                have R9 : RG w9 w1.heap.size s (0 % s) (0 - 0) := by
                  rw [Int.zero_emod, Int.sub_zero]
                  exact R4.turns k9 (by omega)
                have N9 : RN s 0 0 := ⟨⟨s0, s1⟩, by omega, by omega, by omega⟩
                clear cX4 fX4 X4 R4
                have hR := hide R9
                have hX := hide X9
                have hN := hide N9
                have qR := fun (p : Later w9) => hR.out.still p.h
                have qX := fun (p : Later w9) => (hX.out.turns p.h (fun hh => hh.elim)).cell
                clear R9 X9 N9
                go_wp2_with fail
                try simp only [Act.put]
                refine wp_region_later (by kernel_rfl) (by kernel_rfl) ?_
                repeat (go_big_quiet_step ((first | (go_at_call 14; exact Later.calls (used_at (qR _).blk)) | (go_at_call 24; exact Later.calls (rused _ _ _ _ hN.out)) | (go_at_call 16; exact Later.calls (size_at (qR _).blk)))))
                refine wpQuiet_nil ?_
                rintro wz ⟨⟨wz0, kz⟩, ez⟩
                obtain rfl : wz = wz0 := ez
                clear qR qX
                go_wp2_with fail
                go_roundw
                case rel => exact ⟨k + 1, 0, 0, by omega, by omega, by go_num, hN.out, by omega, hR.out.still kz, hX.out.turns kz (fun hh => hh.elim), K9.trans kz⟩
                case measure => simp [intOf]; omega
              · have q2b : (q == 2) = false := beq_eq_false_iff_ne.2 q2
                clear q0 q1 q2
                by_cases pk : m < 0 ∨ i - o ≤ m
                · skip
                  go_wp2_with fail
                  refine (peek_none R m pk).mono ?_
                  rintro e w4 ⟨rfl, k4⟩
                  have X4 := X.turns k4 (by intro hh; first | exact False.elim hh | ((try simp only at hh); omega) | (simp at hh; omega))
                  have cX4 := X4.cell
                  have fX4 := X4.frozen
                  clear cX fX c1 c2
                  go_wp2_with fail
                  refine (rpeek_none s i o m _ hN.out pk).mono ?_
                  rintro e w5 ⟨rfl, k5⟩
                  have K9 := (K.trans k4).trans k5
                  have R9 := (R.still k4).still k5
                  have X9 := X4.turns k5 (by intro hh; first | exact False.elim hh | ((try simp only at hh); omega) | (simp at hh; omega))
                  clear cX4 fX4 R X X4
                  have hR := hide R9
                  have hX := hide X9
                  have qR := fun (p : Later w5) => hR.out.still p.h
                  have qX := fun (p : Later w5) => (hX.out.turns p.h (fun hh => hh.elim)).cell
                  clear R9 X9
                  have hm2 := hm.2
                  go_wp2_with fail
                  refine wp_region_later (by kernel_rfl) (by kernel_rfl) ?_
                  repeat (go_big_quiet_step ((first | (go_at_call 13; exact Later.calls (next_at (qR _) m hm2)) | (go_at_call 23; exact Later.calls (rnext _ _ _ m _ hN.out hm2)))))
                  refine wpQuiet_nil ?_
                  rintro wy ⟨⟨wy0, ky⟩, ey⟩
                  obtain rfl : wy = wy0 := ey
                  clear qR qX
                  replace K9 := K9.trans ky
                  have R9 := hR.out.still ky
                  have X9 := hX.out.turns ky (fun hh => hh.elim)
                  have N9 := hN.out
                  clear hR hX
                  have hR := hide R9
                  have hX := hide X9
                  have hN := hide N9
                  have qR := fun (p : Later wy) => hR.out.still p.h
                  have qX := fun (p : Later wy) => (hX.out.turns p.h (fun hh => hh.elim)).cell
                  clear R9 X9 N9
                  go_wp2_with fail
                  try simp only [Act.put]
                  refine wp_region_later (by kernel_rfl) (by kernel_rfl) ?_
                  repeat (go_big_quiet_step ((first | (go_at_call 14; exact Later.calls (used_at (qR _).blk)) | (go_at_call 24; exact Later.calls (rused _ _ _ _ hN.out)) | (go_at_call 16; exact Later.calls (size_at (qR _).blk)))))
                  refine wpQuiet_nil ?_
                  rintro wz ⟨⟨wz0, kz⟩, ez⟩
                  obtain rfl : wz = wz0 := ez
                  clear qR qX
                  go_wp2_with fail
                  go_roundw
                  case rel => exact ⟨k + 1, i, o, by omega, by omega, by go_num, hN.out, by omega, hR.out.still kz, hX.out.turns kz (fun hh => hh.elim), K9.trans kz⟩
                  case measure => simp [intOf]; omega
                · skip
                  go_wp2_with fail
                  refine (peek_ok R m (by omega) (by omega)).mono ?_
                  rintro e w4 ⟨rfl, k4⟩
                  rw [placeOf_peek]
                  have X4 := X.turns k4 (by intro hh; first | exact False.elim hh | ((try simp only at hh); omega) | (simp at hh; omega))
                  have cX4 := X4.cell
                  have fX4 := X4.frozen
                  clear cX fX c1 c2
                  go_wp2_with fail
                  refine (rpeek_ok s i o m _ hN.out (by omega) (by omega)).mono ?_
                  rintro e w5 ⟨rfl, k5⟩
                  have K9 := (K.trans k4).trans k5
                  have R9 := (R.still k4).still k5
                  have X9 := X4.turns k5 (by intro hh; first | exact False.elim hh | ((try simp only at hh); omega) | (simp at hh; omega))
                  clear cX4 fX4 R X X4
                  have hR := hide R9
                  have hX := hide X9
                  have qR := fun (p : Later w5) => hR.out.still p.h
                  have qX := fun (p : Later w5) => (hX.out.turns p.h (fun hh => hh.elim)).cell
                  clear R9 X9
                  have hm2 := hm.2
                  go_wp2_with fail
                  refine wp_region_later (by kernel_rfl) (by kernel_rfl) ?_
                  repeat (go_big_quiet_step ((first | (go_at_call 13; exact Later.calls (next_at (qR _) m hm2)) | (go_at_call 23; exact Later.calls (rnext _ _ _ m _ hN.out hm2)))))
                  refine wpQuiet_nil ?_
                  rintro wy ⟨⟨wy0, ky⟩, ey⟩
                  obtain rfl : wy = wy0 := ey
                  clear qR qX
                  replace K9 := K9.trans ky
                  have R9 := hR.out.still ky
                  have X9 := hX.out.turns ky (fun hh => hh.elim)
                  have N9 := hN.out
                  clear hR hX
                  have hR := hide R9
                  have hX := hide X9
                  have hN := hide N9
                  have qR := fun (p : Later wy) => hR.out.still p.h
                  have qX := fun (p : Later wy) => (hX.out.turns p.h (fun hh => hh.elim)).cell
                  clear R9 X9 N9
                  go_wp2_with fail
                  try simp only [Act.put]
                  refine wp_region_later (by kernel_rfl) (by kernel_rfl) ?_
                  repeat (go_big_quiet_step ((first | (go_at_call 14; exact Later.calls (used_at (qR _).blk)) | (go_at_call 24; exact Later.calls (rused _ _ _ _ hN.out)) | (go_at_call 16; exact Later.calls (size_at (qR _).blk)))))
                  refine wpQuiet_nil ?_
                  rintro wz ⟨⟨wz0, kz⟩, ez⟩
                  obtain rfl : wz = wz0 := ez
                  clear qR qX
                  go_wp2_with fail
                  go_roundw
                  case rel => exact ⟨k + 1, i, o, by omega, by omega, by go_num, hN.out, by omega, hR.out.still kz, hX.out.turns kz (fun hh => hh.elim), K9.trans kz⟩
                  case measure => simp [intOf]; omega
        · obtain rfl : k = 300 := by omega
          have i1' : (300 : Int) < (len : Int) := by omega
          go_wp2_with fail
          go_returns
          exact ⟨rfl, Turns.none_below K⟩
      · obtain rfl : k = len := by omega
        go_wp2_with fail
        go_returns
        exact ⟨rfl, Turns.none_below K⟩

end Go.Proofs.Ytefgcdpceeeeaaa
