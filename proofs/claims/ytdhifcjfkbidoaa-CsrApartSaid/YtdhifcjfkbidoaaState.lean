/- Registers in memory, and what the file's functions do with them. -/
import Derived.Test.YtdhifcjfkbidoaaBytes
import Derived.Test.YtdhifcjfkbidoaaRows
import Derived.Deep.RegionLaw
import Derived.StillTailTactics
import Derived.WalkSpells
import Derived.WalkLawsBesides
set_option linter.unusedVariables false
namespace Go.Proofs.Ytdhifcjfkbidoaa
open Go.RowKit Go.Proofs.YtdhifcjfkbidoaaW.PrintWords

structure Reg where
  r : Int
  p : Int
  c : Int
  v : Int
deriving DecidableEq

/-- The registers rs at block b, their row at block g from cell o on. -/
structure FAt (w : World) (base b g o cap : Nat) (rs : List Reg) : Prop where
  blk : Blk w b #[.slice (some ⟨g, o, none⟩) rs.length cap] 62
  row : ∃ cs, Blk w g cs 64 ∧ ∀ i r, rs[i]? = some r → cs[o + i * 4]? = some (.int .u32 r.r) ∧ cs[o + i * 4 + 1]? = some (.int .u32 r.p) ∧ cs[o + i * 4 + 2]? = some (.int .u32 r.c) ∧ cs[o + i * 4 + 3]? = some (.int .u32 r.v)
  bb : base ≤ b
  bg : base ≤ g
  few : 0 < rs.length ∧ rs.length ≤ 64

theorem FAt.turns {w w' : World} {base b g o cap : Nat} {rs : List Reg} {S : Nat → Prop} (h : FAt w base b g o cap rs) (k : Turns S w w') (hb : ¬ S b) (hg : ¬ S g) : FAt w' base b g o cap rs := by
  obtain ⟨h1, ⟨cs, h2, h3⟩, h4, h5, h6⟩ := h
  exact ⟨h1.turns k hb, ⟨cs, h2.turns k hg, h3⟩, h4, h5, h6⟩
theorem FAt.still {w w' : World} {base b g o cap : Nat} {rs : List Reg} (h : FAt w base b g o cap rs) (k : Turns nobody w w') : FAt w' base b g o cap rs := h.turns k (fun hh => hh.elim) (fun hh => hh.elim)
theorem FAt.lt {w : World} {base b g o cap : Nat} {rs : List Reg} (h : FAt w base b g o cap rs) : b < w.heap.size ∧ g < w.heap.size := by
  obtain ⟨cs, h2, h3⟩ := h.row
  exact ⟨h.blk.lt, h2.lt⟩
theorem FAt.head {w : World} {base b g o cap : Nat} {rs : List Reg} (h : FAt w base b g o cap rs) : b < w.heap.size ∧ w.cell? ⟨b, 0, none⟩ = some (.slice (some ⟨g, o, none⟩) rs.length cap) ∧ w.frozen? ⟨b, 0, none⟩ = false :=
  ⟨h.blk.lt, h.blk.cell 0, h.blk.frozen 0⟩
theorem FAt.reg {w : World} {base b g o cap : Nat} {rs : List Reg} (h : FAt w base b g o cap rs) {i : Nat} {r : Reg} (hi : rs[i]? = some r) : g < w.heap.size ∧ w.cell? ⟨g, o + i * 4, none⟩ = some (.int .u32 r.r) ∧
    w.cell? ⟨g, o + i * 4 + 1, none⟩ = some (.int .u32 r.p) ∧ w.cell? ⟨g, o + i * 4 + 2, none⟩ = some (.int .u32 r.c) ∧ w.cell? ⟨g, o + i * 4 + 3, none⟩ = some (.int .u32 r.v) ∧ (∀ j, w.frozen? ⟨g, j, none⟩ = false) := by
  obtain ⟨cs, h2, h3⟩ := h.row
  obtain ⟨a, b', c, d⟩ := h3 i r hi
  exact ⟨h2.lt, (h2.cell _).trans a, (h2.cell _).trans b', (h2.cell _).trans c, (h2.cell _).trans d, h2.frozen⟩
/-- A register's value is turned. -/
theorem FAt.put {w : World} {base b g o cap : Nat} {rs : List Reg} (h : FAt w base b g o cap rs) {i : Nat} {r : Reg} (hi : rs[i]? = some r) (v : Int) :
    FAt (w.setCell ⟨g, o + i * 4 + 3, none⟩ (.int .u32 v)) base b g o cap (rs.set i { r with v := v }) := by
  obtain ⟨h1, ⟨cs, h2, h3⟩, h4, h5, h6⟩ := h
  have hne : b ≠ g := by
    intro e
    rw [e] at h1
    have := h1.symm.trans h2
    simp at this
  have hil : i < rs.length := (List.getElem?_eq_some_iff.1 hi).1
  refine ⟨by rw [List.length_set]; exact h1.other hne _, ⟨_, h2.set _ _, fun j r' hj => ?_⟩, h4, h5, by rw [List.length_set]; exact h6⟩
  by_cases hji : i = j
  · subst hji
    rw [List.getElem?_set_self hil] at hj
    injection hj with hj
    subst hj
    obtain ⟨a, b', c, d⟩ := h3 i r hi
    have hs : o + i * 4 + 3 < cs.size := (Array.getElem?_eq_some_iff.1 d).1
    simp only
    refine ⟨?_, ?_, ?_, ?_⟩
    · rw [Array.getElem?_setIfInBounds_ne (by omega)]; exact a
    · rw [Array.getElem?_setIfInBounds_ne (by omega)]; exact b'
    · rw [Array.getElem?_setIfInBounds_ne (by omega)]; exact c
    · rw [Array.getElem?_setIfInBounds_self_of_lt hs]
  · rw [List.getElem?_set_ne hji] at hj
    obtain ⟨a, b', c, d⟩ := h3 j r' hj
    refine ⟨?_, ?_, ?_, ?_⟩
    all_goals (rw [Array.getElem?_setIfInBounds_ne (by omega)]; assumption)

set_option maxHeartbeats 400000 in
theorem find_nil (i : Int) (w : World) : Calls Try.prog 27 #[.pointer none, .int .i64 i] w fun e w' => e = .returned (.pointer none) ∧ Turns nobody w w' := by
  go_enter Try.func27, Try.ntmps27
  go_wp2
  go_returns
  exact ⟨rfl, (by repeat' (first | exact Turns.refl _ _ | assumption | exact Or.inl rfl | exact Or.inr (Nat.le_refl _) | apply Turns.alloc | apply Turns.drew | apply Turns.drewN | apply Turns.setCell | (apply Or.inr; simp; done) | (apply Or.inr; simp; omega) | exact fun _ hh => False.elim hh | exact fun _ hh => Or.inl hh | (intro i hi; right; (try simp only at hi); omega) | (intro i hi; right; simp at hi; omega) | refine Turns.step ?_ (by assumption) ?_))⟩
set_option maxHeartbeats 400000 in
theorem find_none {w : World} {base b g o cap : Nat} {rs : List Reg} (h : FAt w base b g o cap rs) (i : Int) (hi : i < 0 ∨ (rs.length : Int) ≤ i) :
    Calls Try.prog 27 #[.pointer (some ⟨b, 0, none⟩), .int .i64 i] w fun e w' => e = .returned (.pointer none) ∧ Turns nobody w w' := by
  obtain ⟨l0, c0, f0⟩ := h.head
  rcases Int.lt_or_le i 0 with h0 | h0
  · go_enter Try.func27, Try.ntmps27
    go_wp2
    go_returns
    exact ⟨rfl, (by repeat' (first | exact Turns.refl _ _ | assumption | exact Or.inl rfl | exact Or.inr (Nat.le_refl _) | apply Turns.alloc | apply Turns.drew | apply Turns.drewN | apply Turns.setCell | (apply Or.inr; simp; done) | (apply Or.inr; simp; omega) | exact fun _ hh => False.elim hh | exact fun _ hh => Or.inl hh | (intro i hi; right; (try simp only at hi); omega) | (intro i hi; right; simp at hi; omega) | refine Turns.step ?_ (by assumption) ?_))⟩
  · have h1 : (rs.length : Int) ≤ i := by omega
    clear hi
    go_enter Try.func27, Try.ntmps27
    go_wp2
    go_returns
    exact ⟨rfl, (by repeat' (first | exact Turns.refl _ _ | assumption | exact Or.inl rfl | exact Or.inr (Nat.le_refl _) | apply Turns.alloc | apply Turns.drew | apply Turns.drewN | apply Turns.setCell | (apply Or.inr; simp; done) | (apply Or.inr; simp; omega) | exact fun _ hh => False.elim hh | exact fun _ hh => Or.inl hh | (intro i hi; right; (try simp only at hi); omega) | (intro i hi; right; simp at hi; omega) | refine Turns.step ?_ (by assumption) ?_))⟩
set_option maxHeartbeats 400000 in
theorem find_at {w : World} {base b g o cap : Nat} {rs : List Reg} (h : FAt w base b g o cap rs) (i : Nat) (hi : i < rs.length) :
    Calls Try.prog 27 #[.pointer (some ⟨b, 0, none⟩), .int .i64 i] w fun e w' => e = .returned (.pointer (some ⟨g, o + i * 4, none⟩)) ∧ Turns nobody w w' := by
  obtain ⟨l0, c0, f0⟩ := h.head
  obtain ⟨e1, e2⟩ := h.few
  have i0 : (0 : Int) ≤ (i : Int) := by omega
  have i1 : (i : Int) < (rs.length : Int) := by omega
  go_enter Try.func27, Try.ntmps27
  go_wp2
  go_returns
  exact ⟨rfl, (by repeat' (first | exact Turns.refl _ _ | assumption | exact Or.inl rfl | exact Or.inr (Nat.le_refl _) | apply Turns.alloc | apply Turns.drew | apply Turns.drewN | apply Turns.setCell | (apply Or.inr; simp; done) | (apply Or.inr; simp; omega) | exact fun _ hh => False.elim hh | exact fun _ hh => Or.inl hh | (intro i hi; right; (try simp only at hi); omega) | (intro i hi; right; simp at hi; omega) | refine Turns.step ?_ (by assumption) ?_))⟩

end Go.Proofs.Ytdhifcjfkbidoaa
