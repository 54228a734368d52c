/- A ring in memory, and what its plain functions do with it. -/
import Derived.Test.YtefgcdpceeeeaaaBytes
import Derived.Test.YtefgcdpceeeeaaaRows
import Derived.StillTailTactics
import Derived.WalkSpells
import Derived.WalkLawsBesides
set_option linter.unusedVariables false
namespace Go.Proofs.Ytefgcdpceeeeaaa
open Go.RowKit

/-- A ring at block b. -/
structure RG (w : World) (b : Nat) (size first used : Int) : Prop where
  blk : Blk w b #[.int .i64 size, .int .i64 first, .int .i64 used] 60
  s0 : 2 ≤ size ∧ size ≤ 64
  f0 : 0 ≤ first ∧ first < size
  u0 : 0 ≤ used ∧ used ≤ size

theorem RG.turns {w w' : World} {b : Nat} {size first used : Int} {S : Nat → Prop} (h : RG w b size first used) (k : Turns S w w') (hb : ¬ S b) : RG w' b size first used := ⟨h.blk.turns k hb, h.s0, h.f0, h.u0⟩
theorem RG.still {w w' : World} {b : Nat} {size first used : Int} (h : RG w b size first used) (k : Turns nobody w w') : RG w' b size first used := h.turns k (fun hh => hh.elim)
theorem RG.lt {w : World} {b : Nat} {size first used : Int} (h : RG w b size first used) : b < w.heap.size := h.blk.lt

set_option maxHeartbeats 400000 in
theorem new_ok (n : Int) (w : World) (h0 : 2 ≤ n) (h1 : n ≤ 64) : Calls Try.prog 10 #[.int .i64 n] w fun e w' => e = .returned (.tuple #[.pointer (some ⟨w.heap.size, 0, none⟩), .int .i64 0]) ∧ RG w' w.heap.size n 0 0 ∧ Turns nobody w w' := by
  go_enter Try.func10, Try.ntmps10
  go_wp2
  go_ret2
  exact ⟨rfl, ⟨Blk.new _ _ _, ⟨h0, h1⟩, by omega, by omega⟩, (by repeat' (first | exact Turns.refl _ _ | assumption | exact Or.inl rfl | exact Or.inr (Nat.le_refl _) | apply Turns.alloc | apply Turns.drew | apply Turns.drewN | apply Turns.setCell | (apply Or.inr; simp; done) | (apply Or.inr; simp; omega) | exact fun _ hh => False.elim hh | exact fun _ hh => Or.inl hh | (intro i hi; right; (try simp only at hi); omega) | (intro i hi; right; simp at hi; omega) | refine Turns.step ?_ (by assumption) ?_))⟩
set_option maxHeartbeats 400000 in
theorem new_bad (n : Int) (w : World) (h : n < 2 ∨ 64 < n) : Calls Try.prog 10 #[.int .i64 n] w fun e w' => e = .returned (.tuple #[.pointer none, .int .i64 1]) ∧ Turns nobody w w' := by
  go_enter Try.func10, Try.ntmps10
  go_wp2
  all_goals go_ret2
  all_goals exact ⟨rfl, (by repeat' (first | exact Turns.refl _ _ | assumption | exact Or.inl rfl | exact Or.inr (Nat.le_refl _) | apply Turns.alloc | apply Turns.drew | apply Turns.drewN | apply Turns.setCell | (apply Or.inr; simp; done) | (apply Or.inr; simp; omega) | exact fun _ hh => False.elim hh | exact fun _ hh => Or.inl hh | (intro i hi; right; (try simp only at hi); omega) | (intro i hi; right; simp at hi; omega) | refine Turns.step ?_ (by assumption) ?_))⟩
set_option maxHeartbeats 400000 in
theorem size_at {w : World} {b : Nat} {s f u : Int} (h : Blk w b #[.int .i64 s, .int .i64 f, .int .i64 u] 60) : Calls Try.prog 16 #[.pointer (some ⟨b, 0, none⟩)] w fun e w' => e = .returned (.int .i64 s) ∧ Turns nobody w w' := by
  obtain ⟨l, c0, c1, c2, g0, g1, g2⟩ := h.cells3
  go_enter Try.func16, Try.ntmps16
  go_wp2
  go_returns
  exact ⟨rfl, (by repeat' (first | exact Turns.refl _ _ | assumption | exact Or.inl rfl | exact Or.inr (Nat.le_refl _) | apply Turns.alloc | apply Turns.drew | apply Turns.drewN | apply Turns.setCell | (apply Or.inr; simp; done) | (apply Or.inr; simp; omega) | exact fun _ hh => False.elim hh | exact fun _ hh => Or.inl hh | (intro i hi; right; (try simp only at hi); omega) | (intro i hi; right; simp at hi; omega) | refine Turns.step ?_ (by assumption) ?_))⟩
theorem size_nil (w : World) : Calls Try.prog 16 #[.pointer none] w fun e w' => e = .returned (.int .i64 0) ∧ Turns nobody w w' := by
  go_enter Try.func16, Try.ntmps16
  go_wp2
  go_returns
  exact ⟨rfl, (by repeat' (first | exact Turns.refl _ _ | assumption | exact Or.inl rfl | exact Or.inr (Nat.le_refl _) | apply Turns.alloc | apply Turns.drew | apply Turns.drewN | apply Turns.setCell | (apply Or.inr; simp; done) | (apply Or.inr; simp; omega) | exact fun _ hh => False.elim hh | exact fun _ hh => Or.inl hh | (intro i hi; right; (try simp only at hi); omega) | (intro i hi; right; simp at hi; omega) | refine Turns.step ?_ (by assumption) ?_))⟩
set_option maxHeartbeats 400000 in
theorem used_at {w : World} {b : Nat} {s f u : Int} (h : Blk w b #[.int .i64 s, .int .i64 f, .int .i64 u] 60) : Calls Try.prog 14 #[.pointer (some ⟨b, 0, none⟩)] w fun e w' => e = .returned (.int .i64 u) ∧ Turns nobody w w' := by
  obtain ⟨l, c0, c1, c2, g0, g1, g2⟩ := h.cells3
  go_enter Try.func14, Try.ntmps14
  go_wp2
  go_returns
  exact ⟨rfl, (by repeat' (first | exact Turns.refl _ _ | assumption | exact Or.inl rfl | exact Or.inr (Nat.le_refl _) | apply Turns.alloc | apply Turns.drew | apply Turns.drewN | apply Turns.setCell | (apply Or.inr; simp; done) | (apply Or.inr; simp; omega) | exact fun _ hh => False.elim hh | exact fun _ hh => Or.inl hh | (intro i hi; right; (try simp only at hi); omega) | (intro i hi; right; simp at hi; omega) | refine Turns.step ?_ (by assumption) ?_))⟩
theorem used_nil (w : World) : Calls Try.prog 14 #[.pointer none] w fun e w' => e = .returned (.int .i64 0) ∧ Turns nobody w w' := by
  go_enter Try.func14, Try.ntmps14
  go_wp2
  go_returns
  exact ⟨rfl, (by repeat' (first | exact Turns.refl _ _ | assumption | exact Or.inl rfl | exact Or.inr (Nat.le_refl _) | apply Turns.alloc | apply Turns.drew | apply Turns.drewN | apply Turns.setCell | (apply Or.inr; simp; done) | (apply Or.inr; simp; omega) | exact fun _ hh => False.elim hh | exact fun _ hh => Or.inl hh | (intro i hi; right; (try simp only at hi); omega) | (intro i hi; right; simp at hi; omega) | refine Turns.step ?_ (by assumption) ?_))⟩

def nextOf (size i : Int) : Int := if i < 0 ∨ size - 1 ≤ i then 0 else i + 1
set_option maxHeartbeats 400000 in
theorem next_of (p : Option Addr) (s i : Int) (w : World) (h : Calls Try.prog 16 #[.pointer p] w fun e w' => e = .returned (.int .i64 s) ∧ Turns nobody w w') (s0 : 0 ≤ s) (s1 : s ≤ 64) (hi : i ≤ 9223372036854775807) :
    Calls Try.prog 13 #[.pointer p, .int .i64 i] w fun e w' => e = .returned (.int .i64 (nextOf s i)) ∧ Turns nobody w w' := by
  replace h := hide h
  by_cases h0 : i < 0
  · rw [show nextOf s i = 0 from by unfold nextOf; rw [if_pos (.inl h0)]]
    go_enter Try.func13, Try.ntmps13
    go_wp2_with fail
    go_returns
    exact ⟨rfl, (by repeat' (first | exact Turns.refl _ _ | assumption | exact Or.inl rfl | exact Or.inr (Nat.le_refl _) | apply Turns.alloc | apply Turns.drew | apply Turns.drewN | apply Turns.setCell | (apply Or.inr; simp; done) | (apply Or.inr; simp; omega) | exact fun _ hh => False.elim hh | exact fun _ hh => Or.inl hh | (intro i hi; right; (try simp only at hi); omega) | (intro i hi; right; simp at hi; omega) | refine Turns.step ?_ (by assumption) ?_))⟩
  · by_cases h1 : s - 1 ≤ i
    · rw [show nextOf s i = 0 from by unfold nextOf; rw [if_pos (.inr h1)]]
      have h2 : 0 ≤ i := by omega
      go_enter Try.func13, Try.ntmps13
      go_wp2_with fail
      refine (h.out).mono ?_
      rintro e w1 ⟨rfl, k1⟩
      go_wp2_with fail
      go_returns
      exact ⟨rfl, (by repeat' (first | exact Turns.refl _ _ | assumption | exact Or.inl rfl | exact Or.inr (Nat.le_refl _) | apply Turns.alloc | apply Turns.drew | apply Turns.drewN | apply Turns.setCell | (apply Or.inr; simp; done) | (apply Or.inr; simp; omega) | exact fun _ hh => False.elim hh | exact fun _ hh => Or.inl hh | (intro i hi; right; (try simp only at hi); omega) | (intro i hi; right; simp at hi; omega) | refine Turns.step ?_ (by assumption) ?_))⟩
    · rw [show nextOf s i = i + 1 from by unfold nextOf; rw [if_neg (by omega)]]
      have h2 : 0 ≤ i := by omega
      go_enter Try.func13, Try.ntmps13
      go_wp2_with fail
      refine (h.out).mono ?_
      rintro e w1 ⟨rfl, k1⟩
      go_wp2_with fail
      go_returns
      exact ⟨rfl, (by repeat' (first | exact Turns.refl _ _ | assumption | exact Or.inl rfl | exact Or.inr (Nat.le_refl _) | apply Turns.alloc | apply Turns.drew | apply Turns.drewN | apply Turns.setCell | (apply Or.inr; simp; done) | (apply Or.inr; simp; omega) | exact fun _ hh => False.elim hh | exact fun _ hh => Or.inl hh | (intro i hi; right; (try simp only at hi); omega) | (intro i hi; right; simp at hi; omega) | refine Turns.step ?_ (by assumption) ?_))⟩
theorem next_at {w : World} {b : Nat} {s f u : Int} (h : RG w b s f u) (i : Int) (hi : i ≤ 9223372036854775807) : Calls Try.prog 13 #[.pointer (some ⟨b, 0, none⟩), .int .i64 i] w fun e w' => e = .returned (.int .i64 (nextOf s i)) ∧ Turns nobody w w' :=
  next_of _ s i w (size_at h.blk) (by have := h.s0; omega) h.s0.2 hi
theorem next_nil (i : Int) (w : World) (hi : i ≤ 9223372036854775807) : Calls Try.prog 13 #[.pointer none, .int .i64 i] w fun e w' => e = .returned (.int .i64 (nextOf 0 i)) ∧ Turns nobody w w' :=
  next_of none 0 i w (size_nil w) (by omega) (by omega) hi
set_option maxHeartbeats 400000 in
theorem clear_at {w : World} {b : Nat} {s f u : Int} (h : RG w b s f u) : Calls Try.prog 21 #[.pointer (some ⟨b, 0, none⟩)] w fun e w' => e = .returned (.tuple #[]) ∧ RG w' b s 0 0 ∧ Turns (· = b) w w' := by
  obtain ⟨l, c0, c1, c2, g0, g1, g2⟩ := h.blk.cells3
  go_enter Try.func21, Try.ntmps21
  go_wp2
  go_returns
  have B := (h.blk.set 1 (.int .i64 0)).set 2 (.int .i64 0)
  exact ⟨rfl, ⟨by simpa using B, h.s0, by have := h.s0; omega, by have := h.s0; omega⟩, (by repeat' (first | exact Turns.refl _ _ | assumption | exact Or.inl rfl | exact Or.inr (Nat.le_refl _) | apply Turns.alloc | apply Turns.drew | apply Turns.drewN | apply Turns.setCell | (apply Or.inr; simp; done) | (apply Or.inr; simp; omega) | exact fun _ hh => False.elim hh | exact fun _ hh => Or.inl hh | (intro i hi; right; (try simp only at hi); omega) | (intro i hi; right; simp at hi; omega) | refine Turns.step ?_ (by assumption) ?_))⟩
theorem clear_nil (w : World) : Calls Try.prog 21 #[.pointer none] w fun e w' => e = .returned (.tuple #[]) ∧ Turns nobody w w' := by
  go_enter Try.func21, Try.ntmps21
  go_wp2
  go_returns
  exact ⟨rfl, (by repeat' (first | exact Turns.refl _ _ | assumption | exact Or.inl rfl | exact Or.inr (Nat.le_refl _) | apply Turns.alloc | apply Turns.drew | apply Turns.drewN | apply Turns.setCell | (apply Or.inr; simp; done) | (apply Or.inr; simp; omega) | exact fun _ hh => False.elim hh | exact fun _ hh => Or.inl hh | (intro i hi; right; (try simp only at hi); omega) | (intro i hi; right; simp at hi; omega) | refine Turns.step ?_ (by assumption) ?_))⟩

end Go.Proofs.Ytefgcdpceeeeaaa
