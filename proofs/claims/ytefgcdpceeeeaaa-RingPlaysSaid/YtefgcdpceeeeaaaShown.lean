/- Lists of numbers; the document's example. -/
import Derived.Test.YtefgcdpceeeeaaaTake
set_option linter.unusedVariables false
namespace Go.Proofs.Ytefgcdpceeeeaaa
open Go.RowKit Go.Proofs.YtefgcdpceeeeaaaW.PrintWords

/-- The numbers xs lie at A. -/
def IntsAt (w : World) (A : Option Addr) (xs : List Int) : Prop :=
  ∀ j x, xs[j]? = some x → ∃ b o, A = some ⟨b, o, none⟩ ∧ b < w.heap.size ∧ w.cell? ⟨b, o + j, none⟩ = some (.int .i64 x)
theorem IntsAt.turns {w w' : World} {A : Option Addr} {xs : List Int} {S : Nat → Prop} (h : IntsAt w A xs) (k : Turns S w w') (hn : ∀ a, A = some a → ¬ S a.block) : IntsAt w' A xs := by
  intro j x hx
  obtain ⟨b, o, rfl, hb, hc⟩ := h j x hx
  refine ⟨b, o, rfl, Nat.lt_of_lt_of_le hb k.size, ?_⟩
  rw [← hc]
  exact World.cell?_of_block (k.block b hb (hn _ rfl))
theorem IntsAt.still {w w' : World} {A : Option Addr} {xs : List Int} (h : IntsAt w A xs) (k : Turns nobody w w') : IntsAt w' A xs := h.turns k (fun _ _ hh => hh.elim)
/-- A list that Put handed back. -/
theorem ints_of_row {w : World} {base n : Nat} {v : Value} {xs : List Int} (h : w.ownsRow base 3 1 v n (xs.map (Value.int .i64))) (hn : xs.length = n) :
    ∃ A c, v = .slice A n c ∧ IntsAt w A xs ∧ ∀ a, A = some a → base ≤ a.block := by
  obtain ⟨A, c, rfl⟩ := own_slice h
  refine ⟨A, c, rfl, fun j x hj => ?_, fun a ha => own_base h _ (by simp [Value.ownBlock, ha])⟩
  have hjl := (List.getElem?_eq_some_iff.1 hj).1
  obtain ⟨g, o, c', hv, _, _, hg, hc⟩ := q_form (q_of_own h) (by omega)
  injection hv with hA _ _
  exact ⟨g, o, hA, hg, hc j _ (by rw [List.getElem?_map, hj]; rfl)⟩

set_option maxHeartbeats 1000000 in
theorem ints_same {w : World} {A B : Option Addr} {xs : List Int} (c c' : Nat) (hA : IntsAt w A xs) (hB : IntsAt w B xs) (hl : xs.length ≤ 9223372036854775806) :
    Calls Try.prog 19 #[.slice A xs.length c, .slice B xs.length c'] w fun e w' => e = .returned (.bool true) ∧ Turns nobody w w' := by
  have hA := hide hA
  have hB := hide hB
  go_enter Try.func19, Try.ntmps19
  go_wp2_with fail
  go_loopw [5] (fun i wr => ∃ k : Nat, k ≤ xs.length ∧ i = .int .i64 k ∧ Turns nobody w wr) (fun i _ => xs.length - (intOf i).toNat)
  case atStart => exact ⟨0, Nat.zero_le _, rfl, Turns.refl _ _⟩
  case round =>
    obtain ⟨k, hk, rfl, K⟩ := hrel
    by_cases hlt : k < xs.length
    · obtain ⟨x, hx⟩ : ∃ x, xs[k]? = some x := ⟨_, List.getElem?_eq_getElem hlt⟩
      obtain ⟨b1, o1, rfl, hb1, c1⟩ := (hA.out.still K) k x hx
      obtain ⟨b2, o2, rfl, hb2, c2⟩ := (hB.out.still K) k x hx
      have i0 : (0 : Int) ≤ (k : Int) := by omega
      have i1 : (k : Int) < (xs.length : Int) := by omega
      go_wp2_with fail
      go_quiet (fail)
      go_wp2_with fail
      go_roundw
      case rel => exact ⟨k + 1, by omega, by go_num, (by repeat' (first | exact Turns.refl _ _ | assumption | exact Or.inl rfl | exact Or.inr (Nat.le_refl _) | apply Turns.alloc | apply Turns.drew | apply Turns.drewN | apply Turns.setCell | (apply Or.inr; simp; done) | (apply Or.inr; simp; omega) | exact fun _ hh => False.elim hh | exact fun _ hh => Or.inl hh | (intro i hi; right; (try simp only at hi); omega) | (intro i hi; right; simp at hi; omega) | refine Turns.step ?_ (by assumption) ?_))⟩
      case measure => simp [intOf]; omega
    · obtain rfl : k = xs.length := by omega
      go_wp2_with fail
      go_returns
      exact ⟨rfl, (by repeat' (first | exact Turns.refl _ _ | assumption | exact Or.inl rfl | exact Or.inr (Nat.le_refl _) | apply Turns.alloc | apply Turns.drew | apply Turns.drewN | apply Turns.setCell | (apply Or.inr; simp; done) | (apply Or.inr; simp; omega) | exact fun _ hh => False.elim hh | exact fun _ hh => Or.inl hh | (intro i hi; right; (try simp only at hi); omega) | (intro i hi; right; simp at hi; omega) | refine Turns.step ?_ (by assumption) ?_))⟩

/-- Numbers that were written out. -/
theorem ints_lit {w : World} {g : Nat} {xs : List Int} (h : Blk w g (xs.map (Value.int .i64)).toArray 3) : IntsAt w (some ⟨g, 0, none⟩) xs := by
  intro j x hx
  refine ⟨g, 0, rfl, h.lt, ?_⟩
  rw [Nat.zero_add, h.cell j]
  simp [hx]

set_option maxHeartbeats 1000000 in
theorem shown_at (w : World) : Calls Try.prog 9 #[] w fun e w' => e = .returned (.bool true) ∧ Turns nobody w w' := by
  go_enter Try.func9, Try.ntmps9
  go_wp2_with fail
  refine (new_ok 4 _ (by omega) (by omega)).mono ?_
  rintro e w1 ⟨rfl, R1, k1⟩
  go_wp2_with fail
  refine (put_ok R1 3 (by omega) (by omega)).mono ?_
  rintro e w2 ⟨v2, rfl, q2, R2, k2⟩
  obtain ⟨A2, c2, rfl, I2, n2⟩ := ints_of_row q2 (upto_length _ _ _ _)
  go_wp2_with fail
  refine (take_ok R2 (by omega)).mono ?_
  rintro e w3 ⟨rfl, R3, k3⟩
  go_wp2_with fail
  refine (put_ok R3 2 (by omega) (by omega)).mono ?_
  rintro e w4 ⟨v4, rfl, q4, R4, k4⟩
  obtain ⟨A4, c4, rfl, I4, n4⟩ := ints_of_row q4 (upto_length _ _ _ _)
  go_wp2_with fail
  refine (put_full R4.blk (by omega) (by omega) 1 (by omega) (by omega)).mono ?_
  rintro e w5 ⟨rfl, k5⟩
  have l1 := k1.size
  have l2 := k2.size
  have l3 := k3.size
  have l0 := R1.lt
  have K2 : Turns nobody w w2 := (by repeat' (first | exact Turns.refl _ _ | assumption | exact Or.inl rfl | exact Or.inr (Nat.le_refl _) | apply Turns.alloc | apply Turns.drew | apply Turns.drewN | apply Turns.setCell | (apply Or.inr; simp; done) | (apply Or.inr; simp; omega) | exact fun _ hh => False.elim hh | exact fun _ hh => Or.inl hh | (intro i hi; right; (try simp only at hi); omega) | (intro i hi; right; simp at hi; omega) | refine Turns.step ?_ (by assumption) ?_))
  have K5 : Turns nobody w w5 := (by repeat' (first | exact Turns.refl _ _ | assumption | exact Or.inl rfl | exact Or.inr (Nat.le_refl _) | apply Turns.alloc | apply Turns.drew | apply Turns.drewN | apply Turns.setCell | (apply Or.inr; simp; done) | (apply Or.inr; simp; omega) | exact fun _ hh => False.elim hh | exact fun _ hh => Or.inl hh | (intro i hi; right; (try simp only at hi); omega) | (intro i hi; right; simp at hi; omega) | refine Turns.step ?_ (by assumption) ?_))
  have J2 : IntsAt w5 A2 [0, 1, 2] := by
    have h := ((I2.turns k3 (fun a ha e => by have := n2 a ha; omega)).turns k4 (fun a ha e => by have := n2 a ha; omega)).still k5
    rwa [show upto 4 0 0 3 = [0, 1, 2] from by decide] at h
  have J4 : IntsAt w5 A4 [3, 0] := by
    have h := I4.still k5
    rwa [show upto 4 ((0 + 1) % 4) (0 + ((3 : Nat) : Int) - 1) 2 = [3, 0] from by decide] at h
  clear I2 I4 q2 q4 R1 R2 R3 R4 n2 n4
  replace J2 := hide J2
  replace J4 := hide J4
  go_wp2_with fail
  have B6 := Blk.new w5 #[.int .i64 0, .int .i64 1, .int .i64 2] 3
  refine (ints_same (xs := [0, 1, 2]) c2 3 (J2.out.still ((Turns.refl nobody w5).alloc _)) (ints_lit (xs := [0, 1, 2]) B6) (by simp)).mono ?_
  rintro e w6 ⟨rfl, k6⟩
  have K6 : Turns nobody w5 w6 := (by repeat' (first | exact Turns.refl _ _ | assumption | exact Or.inl rfl | exact Or.inr (Nat.le_refl _) | apply Turns.alloc | apply Turns.drew | apply Turns.drewN | apply Turns.setCell | (apply Or.inr; simp; done) | (apply Or.inr; simp; omega) | exact fun _ hh => False.elim hh | exact fun _ hh => Or.inl hh | (intro i hi; right; (try simp only at hi); omega) | (intro i hi; right; simp at hi; omega) | refine Turns.step ?_ (by assumption) ?_))
  go_wp2_with fail
  have B7 := Blk.new w6 #[.int .i64 3, .int .i64 0] 3
  refine (ints_same (xs := [3, 0]) c4 2 ((J4.out.still K6).still ((Turns.refl nobody w6).alloc _)) (ints_lit (xs := [3, 0]) B7) (by simp)).mono ?_
  rintro e w7 ⟨rfl, k7⟩
  go_wp2_with fail
  go_returns
  exact ⟨rfl, K5.trans (K6.trans (by repeat' (first | exact Turns.refl _ _ | assumption | exact Or.inl rfl | exact Or.inr (Nat.le_refl _) | apply Turns.alloc | apply Turns.drew | apply Turns.drewN | apply Turns.setCell | (apply Or.inr; simp; done) | (apply Or.inr; simp; omega) | exact fun _ hh => False.elim hh | exact fun _ hh => Or.inl hh | (intro i hi; right; (try simp only at hi); omega) | (intro i hi; right; simp at hi; omega) | refine Turns.step ?_ (by assumption) ?_)))⟩

set_option maxHeartbeats 1000000 in
theorem ringNobody_walk (n : Int) (w : World) (wn : (Lit.int .i64 n).wf = true) :
    Calls Try.prog 8 #[.int .i64 n] w fun e w' => e = .returned (.bool true) ∧ Below w.heap.size w w' := by
  have bn := bounds_i64 wn
  by_cases h : n < 1
  · go_enter Try.func8, Try.ntmps8
    go_wp2_with fail
    refine (shown_at _).mono ?_
    rintro e w1 ⟨rfl, k1⟩
    go_wp2_with fail
    have B0 := Blk.new w1 #[.int .i64 0, .int .i64 0, .int .i64 0] 60
    refine (put_arg _ n _ h).mono ?_
    rintro e w2 ⟨rfl, k2⟩
    try clear cB0 fB0
    replace B0 := B0.turns k2 (by intro hh; first | exact False.elim hh | ((try simp only at hh); omega) | (simp at hh; omega))
    have cB0 := B0.cell; have fB0 := B0.frozen
    go_wp2_with fail
    refine (put_arg _ n _ h).mono ?_
    rintro e w3 ⟨rfl, k3⟩
    try clear cB0 fB0
    replace B0 := B0.turns k3 (by intro hh; first | exact False.elim hh | ((try simp only at hh); omega) | (simp at hh; omega))
    have cB0 := B0.cell; have fB0 := B0.frozen
    go_wp2_with fail
    refine (take_nil _).mono ?_
    rintro e w4 ⟨rfl, k4⟩
    try clear cB0 fB0
    replace B0 := B0.turns k4 (by intro hh; first | exact False.elim hh | ((try simp only at hh); omega) | (simp at hh; omega))
    have cB0 := B0.cell; have fB0 := B0.frozen
    go_wp2_with fail
    refine (peek_bad _ n 0 _ (fun W k ↦ used_at (B0.turns k (by intro hh; first | exact False.elim hh | ((try simp only at hh); omega) | (simp at hh; omega)))) (by omega)).mono ?_
    rintro e w5 ⟨rfl, k5⟩
    try clear cB0 fB0
    replace B0 := B0.turns k5 (by intro hh; first | exact False.elim hh | ((try simp only at hh); omega) | (simp at hh; omega))
    have cB0 := B0.cell; have fB0 := B0.frozen
    go_wp2_with fail
    refine (clear_nil _).mono ?_
    rintro e w6 ⟨rfl, k6⟩
    try clear cB0 fB0
    replace B0 := B0.turns k6 (by intro hh; first | exact False.elim hh | ((try simp only at hh); omega) | (simp at hh; omega))
    have cB0 := B0.cell; have fB0 := B0.frozen
    go_wp2_with fail
    refine (next_nil n _ (by omega)).mono ?_
    rintro e w7 ⟨rfl, k7⟩
    try clear cB0 fB0
    replace B0 := B0.turns k7 (by intro hh; first | exact False.elim hh | ((try simp only at hh); omega) | (simp at hh; omega))
    have cB0 := B0.cell; have fB0 := B0.frozen
    have e0 : nextOf 0 n = 0 := by unfold nextOf; rw [if_pos (by omega)]
    rw [e0]
    go_wp2_with fail
    refine (used_nil _).mono ?_
    rintro e w8 ⟨rfl, k8⟩
    try clear cB0 fB0
    replace B0 := B0.turns k8 (by intro hh; first | exact False.elim hh | ((try simp only at hh); omega) | (simp at hh; omega))
    have cB0 := B0.cell; have fB0 := B0.frozen
    go_wp2_with fail
    refine (size_at B0).mono ?_
    rintro e w9 ⟨rfl, k9⟩
    go_wp2_with fail
    go_returns
    exact ⟨rfl, Turns.none_below (by repeat' (first | exact Turns.refl _ _ | assumption | exact Or.inl rfl | exact Or.inr (Nat.le_refl _) | apply Turns.alloc | apply Turns.drew | apply Turns.drewN | apply Turns.setCell | (apply Or.inr; simp; done) | (apply Or.inr; simp; omega) | exact fun _ hh => False.elim hh | exact fun _ hh => Or.inl hh | (intro i hi; right; (try simp only at hi); omega) | (intro i hi; right; simp at hi; omega) | refine Turns.step ?_ (by assumption) ?_))⟩
  · have h1 : 1 ≤ n := by omega
    replace h := hide h
    have e1 : ¬ n < 1 := h.out
    go_enter Try.func8, Try.ntmps8
    go_wp2_with fail
    refine (shown_at _).mono ?_
    rintro e w1 ⟨rfl, k1⟩
    go_wp2_with fail
    have B0 := Blk.new w1 #[.int .i64 0, .int .i64 0, .int .i64 0] 60
    refine (put_nil n _ h1).mono ?_
    rintro e w2 ⟨rfl, k2⟩
    try clear cB0 fB0
    replace B0 := B0.turns k2 (by intro hh; first | exact False.elim hh | ((try simp only at hh); omega) | (simp at hh; omega))
    have cB0 := B0.cell; have fB0 := B0.frozen
    go_wp2_with fail
    refine (put_full B0 (by omega) (by omega) n h1 (by omega)).mono ?_
    rintro e w3 ⟨rfl, k3⟩
    try clear cB0 fB0
    replace B0 := B0.turns k3 (by intro hh; first | exact False.elim hh | ((try simp only at hh); omega) | (simp at hh; omega))
    have cB0 := B0.cell; have fB0 := B0.frozen
    go_wp2_with fail
    refine (take_nil _).mono ?_
    rintro e w4 ⟨rfl, k4⟩
    try clear cB0 fB0
    replace B0 := B0.turns k4 (by intro hh; first | exact False.elim hh | ((try simp only at hh); omega) | (simp at hh; omega))
    have cB0 := B0.cell; have fB0 := B0.frozen
    go_wp2_with fail
    refine (peek_bad _ n 0 _ (fun W k ↦ used_at (B0.turns k (by intro hh; first | exact False.elim hh | ((try simp only at hh); omega) | (simp at hh; omega)))) (by omega)).mono ?_
    rintro e w5 ⟨rfl, k5⟩
    try clear cB0 fB0
    replace B0 := B0.turns k5 (by intro hh; first | exact False.elim hh | ((try simp only at hh); omega) | (simp at hh; omega))
    have cB0 := B0.cell; have fB0 := B0.frozen
    go_wp2_with fail
    refine (clear_nil _).mono ?_
    rintro e w6 ⟨rfl, k6⟩
    try clear cB0 fB0
    replace B0 := B0.turns k6 (by intro hh; first | exact False.elim hh | ((try simp only at hh); omega) | (simp at hh; omega))
    have cB0 := B0.cell; have fB0 := B0.frozen
    go_wp2_with fail
    refine (next_nil n _ (by omega)).mono ?_
    rintro e w7 ⟨rfl, k7⟩
    try clear cB0 fB0
    replace B0 := B0.turns k7 (by intro hh; first | exact False.elim hh | ((try simp only at hh); omega) | (simp at hh; omega))
    have cB0 := B0.cell; have fB0 := B0.frozen
    have e0 : nextOf 0 n = 0 := by unfold nextOf; rw [if_pos (by omega)]
    rw [e0]
    go_wp2_with fail
    refine (used_nil _).mono ?_
    rintro e w8 ⟨rfl, k8⟩
    try clear cB0 fB0
    replace B0 := B0.turns k8 (by intro hh; first | exact False.elim hh | ((try simp only at hh); omega) | (simp at hh; omega))
    have cB0 := B0.cell; have fB0 := B0.frozen
    go_wp2_with fail
    refine (size_at B0).mono ?_
    rintro e w9 ⟨rfl, k9⟩
    go_wp2_with fail
    go_returns
    exact ⟨rfl, Turns.none_below (by repeat' (first | exact Turns.refl _ _ | assumption | exact Or.inl rfl | exact Or.inr (Nat.le_refl _) | apply Turns.alloc | apply Turns.drew | apply Turns.drewN | apply Turns.setCell | (apply Or.inr; simp; done) | (apply Or.inr; simp; omega) | exact fun _ hh => False.elim hh | exact fun _ hh => Or.inl hh | (intro i hi; right; (try simp only at hi); omega) | (intro i hi; right; simp at hi; omega) | refine Turns.step ?_ (by assumption) ?_))⟩

end Go.Proofs.Ytefgcdpceeeeaaa
