/- What Take does with a ring; the document's example. -/
import Derived.Test.YtefgcdpceeeeaaaPeek
set_option linter.unusedVariables false
namespace Go.Proofs.Ytefgcdpceeeeaaa
open Go.RowKit

theorem placeOf_first {s f : Int} (h : 0 ≤ f ∧ f < s) : placeOf s f 0 0 = f := by
  unfold placeOf
  rw [Int.add_zero, show ((0 : Nat) : Int) = 0 from rfl, Int.add_zero]
  exact Int.emod_eq_of_lt h.1 h.2
theorem nextOf_first {s f : Int} (h : 0 ≤ f ∧ f < s) : nextOf s f = (f + 1) % s := by
  unfold nextOf
  split
  · rename_i hh
    have : f + 1 = s := by omega
    rw [this, Int.emod_self]
  · rename_i hh
    rw [Int.emod_eq_of_lt (by omega) (by omega)]
theorem peek_nil (i : Int) (w : World) : Calls Try.prog 15 #[.pointer none, .int .i64 i] w fun e w' => e = .returned (.tuple #[.int .i64 0, .int .i64 6]) ∧ Turns nobody w w' :=
  peek_bad none i 0 w (fun W _ => used_nil W) (by omega)
theorem peek_none {w : World} {b : Nat} {s f u : Int} (h : RG w b s f u) (i : Int) (hi : i < 0 ∨ u ≤ i) :
    Calls Try.prog 15 #[.pointer (some ⟨b, 0, none⟩), .int .i64 i] w fun e w' => e = .returned (.tuple #[.int .i64 0, .int .i64 6]) ∧ Turns nobody w w' :=
  peek_bad _ i u w (fun W k => used_at (h.still k).blk) hi

set_option maxHeartbeats 400000 in
theorem take_nil (w : World) : Calls Try.prog 11 #[.pointer none] w fun e w' => e = .returned (.tuple #[.int .i64 0, .int .i64 6]) ∧ Turns nobody w w' := by
  go_enter Try.func11, Try.ntmps11
  go_wp2_with fail
  refine (peek_nil 0 _).mono ?_
  rintro e w1 ⟨rfl, k1⟩
  go_wp2_with fail
  go_returns
  exact ⟨rfl, (by repeat' (first | exact Turns.refl _ _ | assumption | exact Or.inl rfl | exact Or.inr (Nat.le_refl _) | apply Turns.alloc | apply Turns.drew | apply Turns.drewN | apply Turns.setCell | (apply Or.inr; simp; done) | (apply Or.inr; simp; omega) | exact fun _ hh => False.elim hh | exact fun _ hh => Or.inl hh | (intro i hi; right; (try simp only at hi); omega) | (intro i hi; right; simp at hi; omega) | refine Turns.step ?_ (by assumption) ?_))⟩
set_option maxHeartbeats 400000 in
theorem take_none {w : World} {b : Nat} {s f : Int} (h : RG w b s f 0) : Calls Try.prog 11 #[.pointer (some ⟨b, 0, none⟩)] w fun e w' => e = .returned (.tuple #[.int .i64 0, .int .i64 6]) ∧ Turns nobody w w' := by
  go_enter Try.func11, Try.ntmps11
  go_wp2_with fail
  refine (peek_none h 0 (by omega)).mono ?_
  rintro e w1 ⟨rfl, k1⟩
  go_wp2_with fail
  go_returns
  exact ⟨rfl, (by repeat' (first | exact Turns.refl _ _ | assumption | exact Or.inl rfl | exact Or.inr (Nat.le_refl _) | apply Turns.alloc | apply Turns.drew | apply Turns.drewN | apply Turns.setCell | (apply Or.inr; simp; done) | (apply Or.inr; simp; omega) | exact fun _ hh => False.elim hh | exact fun _ hh => Or.inl hh | (intro i hi; right; (try simp only at hi); omega) | (intro i hi; right; simp at hi; omega) | refine Turns.step ?_ (by assumption) ?_))⟩
set_option maxHeartbeats 400000 in
theorem take_ok {w : World} {b : Nat} {s f u : Int} (h : RG w b s f u) (hu : 0 < u) :
    Calls Try.prog 11 #[.pointer (some ⟨b, 0, none⟩)] w fun e w' => e = .returned (.tuple #[.int .i64 f, .int .i64 0]) ∧ RG w' b s ((f + 1) % s) (u - 1) ∧ Turns (· = b) w w' := by
  have s0 := h.s0; have f0 := h.f0; have u0 := h.u0
  have hp := placeOf_first f0
  go_enter Try.func11, Try.ntmps11
  go_wp2_with fail
  refine (peek_ok h 0 (by omega) hu).mono ?_
  rintro e w1 ⟨rfl, k1⟩
  rw [hp]
  have h1 := h.still k1
  go_wp2_with fail
  refine (next_at h1 f (by omega)).mono ?_
  rintro e w2 ⟨rfl, k2⟩
  rw [nextOf_first f0]
  have h2 := h1.still k2
  obtain ⟨l2, c0, c1, c2, g0, g1, g2⟩ := h2.blk.cells3
  go_wp2_with fail
  go_returns
  have B := (h2.blk.set 1 (.int .i64 ((f + 1) % s))).set 2 (.int .i64 (u - 1))
  have hm0 := Int.emod_nonneg (f + 1) (show s ≠ 0 by omega)
  have hm1 := Int.emod_lt_of_pos (f + 1) (show 0 < s by omega)
  exact ⟨rfl, ⟨by simpa using B, s0, ⟨hm0, hm1⟩, by omega⟩, (by repeat' (first | exact Turns.refl _ _ | assumption | exact Or.inl rfl | exact Or.inr (Nat.le_refl _) | apply Turns.alloc | apply Turns.drew | apply Turns.drewN | apply Turns.setCell | (apply Or.inr; simp; done) | (apply Or.inr; simp; omega) | exact fun _ hh => False.elim hh | exact fun _ hh => Or.inl hh | (intro i hi; right; (try simp only at hi); omega) | (intro i hi; right; simp at hi; omega) | refine Turns.step ?_ (by assumption) ?_))⟩

theorem put_full {w : World} {b : Nat} {s f u : Int} (h : Blk w b #[.int .i64 s, .int .i64 f, .int .i64 u] 60) (hs : 0 ≤ s ∧ s ≤ 64) (hu : 0 ≤ u ∧ u ≤ s) (n : Int) (h1 : 1 ≤ n) (h2 : s - u < n) :
    Calls Try.prog 12 #[.pointer (some ⟨b, 0, none⟩), .int .i64 n] w fun e w' => e = .returned (.tuple #[.slice none 0 0, .int .i64 3]) ∧ Turns nobody w w' := by
  have e1 : ¬ n < 1 := by omega
  go_enter Try.func12, Try.ntmps12
  go_wp2_with fail
  refine (size_at h).mono ?_
  rintro e w1 ⟨rfl, k1⟩
  have h1' := h.turns k1 (by intro hh; first | exact False.elim hh | ((try simp only at hh); omega) | (simp at hh; omega))
  go_wp2_with fail
  refine (used_at h1').mono ?_
  rintro e w2 ⟨rfl, k2⟩
  go_wp2_with fail
  go_returns
  exact ⟨rfl, (by repeat' (first | exact Turns.refl _ _ | assumption | exact Or.inl rfl | exact Or.inr (Nat.le_refl _) | apply Turns.alloc | apply Turns.drew | apply Turns.drewN | apply Turns.setCell | (apply Or.inr; simp; done) | (apply Or.inr; simp; omega) | exact fun _ hh => False.elim hh | exact fun _ hh => Or.inl hh | (intro i hi; right; (try simp only at hi); omega) | (intro i hi; right; simp at hi; omega) | refine Turns.step ?_ (by assumption) ?_))⟩
theorem put_nil (n : Int) (w : World) (h1 : 1 ≤ n) :
    Calls Try.prog 12 #[.pointer none, .int .i64 n] w fun e w' => e = .returned (.tuple #[.slice none 0 0, .int .i64 3]) ∧ Turns nobody w w' := by
  have e1 : ¬ n < 1 := by omega
  go_enter Try.func12, Try.ntmps12
  go_wp2_with fail
  refine (size_nil _).mono ?_
  rintro e w1 ⟨rfl, k1⟩
  go_wp2_with fail
  refine (used_nil _).mono ?_
  rintro e w2 ⟨rfl, k2⟩
  go_wp2_with fail
  go_returns
  exact ⟨rfl, (by repeat' (first | exact Turns.refl _ _ | assumption | exact Or.inl rfl | exact Or.inr (Nat.le_refl _) | apply Turns.alloc | apply Turns.drew | apply Turns.drewN | apply Turns.setCell | (apply Or.inr; simp; done) | (apply Or.inr; simp; omega) | exact fun _ hh => False.elim hh | exact fun _ hh => Or.inl hh | (intro i hi; right; (try simp only at hi); omega) | (intro i hi; right; simp at hi; omega) | refine Turns.step ?_ (by assumption) ?_))⟩

end Go.Proofs.Ytefgcdpceeeeaaa
