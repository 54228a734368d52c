/- What the file's functions do with registers. -/
import Derived.Test.YtdhifcjfkbidoaaState
set_option linter.unusedVariables false
namespace Go.Proofs.Ytdhifcjfkbidoaa
open Go.RowKit Go.Proofs.YtdhifcjfkbidoaaW.PrintWords

set_option maxHeartbeats 400000 in
theorem get_nil (i : Int) (w : World) : Calls Try.prog 12 #[.pointer none, .int .i64 i] w fun e w' => e = .returned (.int .u32 0) ∧ Turns nobody w w' := by
  go_enter Try.func12, Try.ntmps12
  go_wp2_with fail
  refine (find_nil i _).mono ?_
  rintro e w1 ⟨rfl, k1⟩
  go_wp2_with fail
  go_returns
  exact ⟨rfl, (by repeat' (first | exact Turns.refl _ _ | assumption | exact Or.inl rfl | exact Or.inr (Nat.le_refl _) | apply Turns.alloc | apply Turns.drew | apply Turns.drewN | apply Turns.setCell | (apply Or.inr; simp; done) | (apply Or.inr; simp; omega) | exact fun _ hh => False.elim hh | exact fun _ hh => Or.inl hh | (intro i hi; right; (try simp only at hi); omega) | (intro i hi; right; simp at hi; omega) | refine Turns.step ?_ (by assumption) ?_))⟩
set_option maxHeartbeats 400000 in
theorem get_none {w : World} {base b g o cap : Nat} {rs : List Reg} (h : FAt w base b g o cap rs) (i : Int) (hi : i < 0 ∨ (rs.length : Int) ≤ i) :
    Calls Try.prog 12 #[.pointer (some ⟨b, 0, none⟩), .int .i64 i] w fun e w' => e = .returned (.int .u32 0) ∧ Turns nobody w w' := by
  go_enter Try.func12, Try.ntmps12
  go_wp2_with fail
  refine (find_none h i hi).mono ?_
  rintro e w1 ⟨rfl, k1⟩
  go_wp2_with fail
  go_returns
  exact ⟨rfl, (by repeat' (first | exact Turns.refl _ _ | assumption | exact Or.inl rfl | exact Or.inr (Nat.le_refl _) | apply Turns.alloc | apply Turns.drew | apply Turns.drewN | apply Turns.setCell | (apply Or.inr; simp; done) | (apply Or.inr; simp; omega) | exact fun _ hh => False.elim hh | exact fun _ hh => Or.inl hh | (intro i hi; right; (try simp only at hi); omega) | (intro i hi; right; simp at hi; omega) | refine Turns.step ?_ (by assumption) ?_))⟩
set_option maxHeartbeats 400000 in
theorem get_at {w : World} {base b g o cap : Nat} {rs : List Reg} (h : FAt w base b g o cap rs) (i : Nat) {r : Reg} (hi : rs[i]? = some r) :
    Calls Try.prog 12 #[.pointer (some ⟨b, 0, none⟩), .int .i64 i] w fun e w' => e = .returned (.int .u32 r.v) ∧ Turns nobody w w' := by
  go_enter Try.func12, Try.ntmps12
  go_wp2_with fail
  refine (find_at h i (List.getElem?_eq_some_iff.1 hi).1).mono ?_
  rintro e w1 ⟨rfl, k1⟩
  obtain ⟨l1, _, _, _, c3, f1⟩ := (h.still k1).reg hi
  go_wp2_with fail
  go_returns
  exact ⟨rfl, (by repeat' (first | exact Turns.refl _ _ | assumption | exact Or.inl rfl | exact Or.inr (Nat.le_refl _) | apply Turns.alloc | apply Turns.drew | apply Turns.drewN | apply Turns.setCell | (apply Or.inr; simp; done) | (apply Or.inr; simp; omega) | exact fun _ hh => False.elim hh | exact fun _ hh => Or.inl hh | (intro i hi; right; (try simp only at hi); omega) | (intro i hi; right; simp at hi; omega) | refine Turns.step ?_ (by assumption) ?_))⟩
set_option maxHeartbeats 400000 in
theorem set_nil (i v : Int) (w : World) : Calls Try.prog 15 #[.pointer none, .int .i64 i, .int .u32 v] w fun e w' => e = .returned (.int .i64 2) ∧ Turns nobody w w' := by
  go_enter Try.func15, Try.ntmps15
  go_wp2_with fail
  refine (find_nil i _).mono ?_
  rintro e w1 ⟨rfl, k1⟩
  go_wp2_with fail
  go_returns
  exact ⟨rfl, (by repeat' (first | exact Turns.refl _ _ | assumption | exact Or.inl rfl | exact Or.inr (Nat.le_refl _) | apply Turns.alloc | apply Turns.drew | apply Turns.drewN | apply Turns.setCell | (apply Or.inr; simp; done) | (apply Or.inr; simp; omega) | exact fun _ hh => False.elim hh | exact fun _ hh => Or.inl hh | (intro i hi; right; (try simp only at hi); omega) | (intro i hi; right; simp at hi; omega) | refine Turns.step ?_ (by assumption) ?_))⟩
set_option maxHeartbeats 400000 in
theorem set_none {w : World} {base b g o cap : Nat} {rs : List Reg} (h : FAt w base b g o cap rs) (i v : Int) (hi : i < 0 ∨ (rs.length : Int) ≤ i) :
    Calls Try.prog 15 #[.pointer (some ⟨b, 0, none⟩), .int .i64 i, .int .u32 v] w fun e w' => e = .returned (.int .i64 2) ∧ Turns nobody w w' := by
  go_enter Try.func15, Try.ntmps15
  go_wp2_with fail
  refine (find_none h i hi).mono ?_
  rintro e w1 ⟨rfl, k1⟩
  go_wp2_with fail
  go_returns
  exact ⟨rfl, (by repeat' (first | exact Turns.refl _ _ | assumption | exact Or.inl rfl | exact Or.inr (Nat.le_refl _) | apply Turns.alloc | apply Turns.drew | apply Turns.drewN | apply Turns.setCell | (apply Or.inr; simp; done) | (apply Or.inr; simp; omega) | exact fun _ hh => False.elim hh | exact fun _ hh => Or.inl hh | (intro i hi; right; (try simp only at hi); omega) | (intro i hi; right; simp at hi; omega) | refine Turns.step ?_ (by assumption) ?_))⟩
set_option maxHeartbeats 400000 in
theorem set_at {w : World} {base b g o cap : Nat} {rs : List Reg} (h : FAt w base b g o cap rs) (i : Nat) {r : Reg} (hi : rs[i]? = some r) (v : Int) :
    Calls Try.prog 15 #[.pointer (some ⟨b, 0, none⟩), .int .i64 i, .int .u32 v] w fun e w' => e = .returned (.int .i64 0) ∧ FAt w' base b g o cap (rs.set i { r with v := v }) ∧ Turns (· = g) w w' := by
  go_enter Try.func15, Try.ntmps15
  go_wp2_with fail
  refine (find_at h i (List.getElem?_eq_some_iff.1 hi).1).mono ?_
  rintro e w1 ⟨rfl, k1⟩
  have h1 := h.still k1
  obtain ⟨l1, _, _, _, c3, f1⟩ := h1.reg hi
  go_wp2_with fail
  go_returns
  exact ⟨rfl, h1.put hi v, (by repeat' (first | exact Turns.refl _ _ | assumption | exact Or.inl rfl | exact Or.inr (Nat.le_refl _) | apply Turns.alloc | apply Turns.drew | apply Turns.drewN | apply Turns.setCell | (apply Or.inr; simp; done) | (apply Or.inr; simp; omega) | exact fun _ hh => False.elim hh | exact fun _ hh => Or.inl hh | (intro i hi; right; (try simp only at hi); omega) | (intro i hi; right; simp at hi; omega) | refine Turns.step ?_ (by assumption) ?_))⟩
set_option maxHeartbeats 400000 in
theorem raise_nil (i v : Int) (w : World) : Calls Try.prog 16 #[.pointer none, .int .i64 i, .int .u32 v] w fun e w' => e = .returned (.int .i64 2) ∧ Turns nobody w w' := by
  go_enter Try.func16, Try.ntmps16
  go_wp2_with fail
  refine (get_nil i _).mono ?_
  rintro e w1 ⟨rfl, k1⟩
  go_wp2_with fail
  refine (set_nil i _ _).mono ?_
  rintro e w2 ⟨rfl, k2⟩
  go_wp2_with fail
  go_returns
  exact ⟨rfl, (by repeat' (first | exact Turns.refl _ _ | assumption | exact Or.inl rfl | exact Or.inr (Nat.le_refl _) | apply Turns.alloc | apply Turns.drew | apply Turns.drewN | apply Turns.setCell | (apply Or.inr; simp; done) | (apply Or.inr; simp; omega) | exact fun _ hh => False.elim hh | exact fun _ hh => Or.inl hh | (intro i hi; right; (try simp only at hi); omega) | (intro i hi; right; simp at hi; omega) | refine Turns.step ?_ (by assumption) ?_))⟩
set_option maxHeartbeats 400000 in
theorem raise_none {w : World} {base b g o cap : Nat} {rs : List Reg} (h : FAt w base b g o cap rs) (i v : Int) (hi : i < 0 ∨ (rs.length : Int) ≤ i) :
    Calls Try.prog 16 #[.pointer (some ⟨b, 0, none⟩), .int .i64 i, .int .u32 v] w fun e w' => e = .returned (.int .i64 2) ∧ Turns nobody w w' := by
  go_enter Try.func16, Try.ntmps16
  go_wp2_with fail
  refine (get_none h i hi).mono ?_
  rintro e w1 ⟨rfl, k1⟩
  have h1 := h.still k1
  go_wp2_with fail
  refine (set_none h1 i _ hi).mono ?_
  rintro e w2 ⟨rfl, k2⟩
  go_wp2_with fail
  go_returns
  exact ⟨rfl, (by repeat' (first | exact Turns.refl _ _ | assumption | exact Or.inl rfl | exact Or.inr (Nat.le_refl _) | apply Turns.alloc | apply Turns.drew | apply Turns.drewN | apply Turns.setCell | (apply Or.inr; simp; done) | (apply Or.inr; simp; omega) | exact fun _ hh => False.elim hh | exact fun _ hh => Or.inl hh | (intro i hi; right; (try simp only at hi); omega) | (intro i hi; right; simp at hi; omega) | refine Turns.step ?_ (by assumption) ?_))⟩
set_option maxHeartbeats 400000 in
theorem raise_at {w : World} {base b g o cap : Nat} {rs : List Reg} (h : FAt w base b g o cap rs) (i : Nat) {r : Reg} (hi : rs[i]? = some r) (v : Int) :
    Calls Try.prog 16 #[.pointer (some ⟨b, 0, none⟩), .int .i64 i, .int .u32 v] w fun e w' => e = .returned (.int .i64 0) ∧ FAt w' base b g o cap (rs.set i { r with v := bits .or .u32 r.v v }) ∧ Turns (· = g) w w' := by
  go_enter Try.func16, Try.ntmps16
  go_wp2_with fail
  refine (get_at h i hi).mono ?_
  rintro e w1 ⟨rfl, k1⟩
  have h1 := h.still k1
  go_wp2_with fail
  refine (set_at h1 i hi _).mono ?_
  rintro e w2 ⟨rfl, h2, k2⟩
  go_wp2_with fail
  go_returns
  exact ⟨rfl, h2, (by repeat' (first | exact Turns.refl _ _ | assumption | exact Or.inl rfl | exact Or.inr (Nat.le_refl _) | apply Turns.alloc | apply Turns.drew | apply Turns.drewN | apply Turns.setCell | (apply Or.inr; simp; done) | (apply Or.inr; simp; omega) | exact fun _ hh => False.elim hh | exact fun _ hh => Or.inl hh | (intro i hi; right; (try simp only at hi); omega) | (intro i hi; right; simp at hi; omega) | refine Turns.step ?_ (by assumption) ?_))⟩

/-- What the i-th register is. -/
def valAt (rs : List Reg) (i : Int) : Int := if 0 ≤ i then ((rs[i.toNat]?).map Reg.v).getD 0 else 0
theorem valAt_of {rs : List Reg} {i : Nat} {r : Reg} (h : rs[i]? = some r) : valAt rs i = r.v := by simp [valAt, h]
theorem valAt_none {rs : List Reg} {i : Int} (h : i < 0 ∨ (rs.length : Int) ≤ i) : valAt rs i = 0 := by
  unfold valAt
  split
  · rw [List.getElem?_eq_none (by omega)]; rfl
  · rfl
theorem at_cases (rs : List Reg) (i : Int) : (i < 0 ∨ (rs.length : Int) ≤ i) ∨ ∃ (k : Nat) (r : Reg), i = k ∧ rs[k]? = some r := by
  by_cases h : i < 0 ∨ (rs.length : Int) ≤ i
  · exact .inl h
  · refine .inr ⟨i.toNat, rs[i.toNat]'(by omega), by omega, by rw [List.getElem?_eq_getElem]⟩
theorem get_law {w : World} {base b g o cap : Nat} {rs : List Reg} (h : FAt w base b g o cap rs) (i : Int) :
    Calls Try.prog 12 #[.pointer (some ⟨b, 0, none⟩), .int .i64 i] w fun e w' => e = .returned (.int .u32 (valAt rs i)) ∧ Turns nobody w w' := by
  rcases at_cases rs i with h0 | ⟨k, r, rfl, hk⟩
  · rw [valAt_none h0]; exact get_none h i h0
  · rw [valAt_of hk]; exact get_at h k hk
set_option maxHeartbeats 400000 in
theorem line_law {w : World} {base b g o cap : Nat} {rs : List Reg} (h : FAt w base b g o cap rs) (i j : Int) :
    Calls Try.prog 17 #[.pointer (some ⟨b, 0, none⟩), .int .i64 i, .int .i64 j] w fun e w' => e = .returned (.bool (bits .and .u32 (valAt rs i) (valAt rs j) != 0)) ∧ Turns nobody w w' := by
  go_enter Try.func17, Try.ntmps17
  go_wp2_with fail
  refine (get_law h i).mono ?_
  rintro e w1 ⟨rfl, k1⟩
  have h1 := h.still k1
  go_wp2_with fail
  refine (get_law h1 j).mono ?_
  rintro e w2 ⟨rfl, k2⟩
  go_wp2_with fail
  go_returns
  exact ⟨rfl, (by repeat' (first | exact Turns.refl _ _ | assumption | exact Or.inl rfl | exact Or.inr (Nat.le_refl _) | apply Turns.alloc | apply Turns.drew | apply Turns.drewN | apply Turns.setCell | (apply Or.inr; simp; done) | (apply Or.inr; simp; omega) | exact fun _ hh => False.elim hh | exact fun _ hh => Or.inl hh | (intro i hi; right; (try simp only at hi); omega) | (intro i hi; right; simp at hi; omega) | refine Turns.step ?_ (by assumption) ?_))⟩
set_option maxHeartbeats 400000 in
theorem line_nil (i j : Int) (w : World) : Calls Try.prog 17 #[.pointer none, .int .i64 i, .int .i64 j] w fun e w' => e = .returned (.bool false) ∧ Turns nobody w w' := by
  go_enter Try.func17, Try.ntmps17
  go_wp2_with fail
  refine (get_nil i _).mono ?_
  rintro e w1 ⟨rfl, k1⟩
  go_wp2_with fail
  refine (get_nil j _).mono ?_
  rintro e w2 ⟨rfl, k2⟩
  have e0 : bits .and .u32 0 0 = 0 := by decide
  go_wp2_with fail
  go_returns
  exact ⟨rfl, (by repeat' (first | exact Turns.refl _ _ | assumption | exact Or.inl rfl | exact Or.inr (Nat.le_refl _) | apply Turns.alloc | apply Turns.drew | apply Turns.drewN | apply Turns.setCell | (apply Or.inr; simp; done) | (apply Or.inr; simp; omega) | exact fun _ hh => False.elim hh | exact fun _ hh => Or.inl hh | (intro i hi; right; (try simp only at hi); omega) | (intro i hi; right; simp at hi; omega) | refine Turns.step ?_ (by assumption) ?_))⟩

set_option maxHeartbeats 400000 in
theorem place_nil (a : Int) (w : World) (h0 : 0 ≤ a) (h1 : a ≤ 4294967295) : Calls Try.prog 28 #[.pointer none, .int .u32 a] w fun e w' => e = .returned (.pointer none) ∧ Turns nobody w w' := by
  have ht : Int.tmod a 4 = a % 4 := Int.tmod_eq_emod_of_nonneg h0
  have hd : Int.tdiv a 4 = a / 4 := Int.tdiv_eq_ediv_of_nonneg h0
  have hw : IntKind.i64.wrap (a / 4) = a / 4 := IntWalk.i64_in _ ⟨by omega, by omega⟩
  by_cases h : a % 4 = 0
  · go_enter Try.func28, Try.ntmps28
    go_wp2_with fail
    refine (find_nil _ _).mono ?_
    rintro e w1 ⟨rfl, k1⟩
    go_wp2_with fail
    go_returns
    exact ⟨rfl, (by repeat' (first | exact Turns.refl _ _ | assumption | exact Or.inl rfl | exact Or.inr (Nat.le_refl _) | apply Turns.alloc | apply Turns.drew | apply Turns.drewN | apply Turns.setCell | (apply Or.inr; simp; done) | (apply Or.inr; simp; omega) | exact fun _ hh => False.elim hh | exact fun _ hh => Or.inl hh | (intro i hi; right; (try simp only at hi); omega) | (intro i hi; right; simp at hi; omega) | refine Turns.step ?_ (by assumption) ?_))⟩
  · go_enter Try.func28, Try.ntmps28
    go_wp2_with fail
    go_returns
    exact ⟨rfl, (by repeat' (first | exact Turns.refl _ _ | assumption | exact Or.inl rfl | exact Or.inr (Nat.le_refl _) | apply Turns.alloc | apply Turns.drew | apply Turns.drewN | apply Turns.setCell | (apply Or.inr; simp; done) | (apply Or.inr; simp; omega) | exact fun _ hh => False.elim hh | exact fun _ hh => Or.inl hh | (intro i hi; right; (try simp only at hi); omega) | (intro i hi; right; simp at hi; omega) | refine Turns.step ?_ (by assumption) ?_))⟩
set_option maxHeartbeats 400000 in
theorem place_none {w : World} {base b g o cap : Nat} {rs : List Reg} (hf : FAt w base b g o cap rs) (a : Int) (h0 : 0 ≤ a) (h1 : a ≤ 4294967295) (hi : a % 4 ≠ 0 ∨ (rs.length : Int) ≤ a / 4) :
    Calls Try.prog 28 #[.pointer (some ⟨b, 0, none⟩), .int .u32 a] w fun e w' => e = .returned (.pointer none) ∧ Turns nobody w w' := by
  have ht : Int.tmod a 4 = a % 4 := Int.tmod_eq_emod_of_nonneg h0
  have hd : Int.tdiv a 4 = a / 4 := Int.tdiv_eq_ediv_of_nonneg h0
  have hw : IntKind.i64.wrap (a / 4) = a / 4 := IntWalk.i64_in _ ⟨by omega, by omega⟩
  by_cases h : a % 4 = 0
  · have hl : (rs.length : Int) ≤ a / 4 := by omega
    clear hi
    go_enter Try.func28, Try.ntmps28
    go_wp2_with fail
    refine (find_none hf _ (.inr hl)).mono ?_
    rintro e w1 ⟨rfl, k1⟩
    go_wp2_with fail
    go_returns
    exact ⟨rfl, (by repeat' (first | exact Turns.refl _ _ | assumption | exact Or.inl rfl | exact Or.inr (Nat.le_refl _) | apply Turns.alloc | apply Turns.drew | apply Turns.drewN | apply Turns.setCell | (apply Or.inr; simp; done) | (apply Or.inr; simp; omega) | exact fun _ hh => False.elim hh | exact fun _ hh => Or.inl hh | (intro i hi; right; (try simp only at hi); omega) | (intro i hi; right; simp at hi; omega) | refine Turns.step ?_ (by assumption) ?_))⟩
  · clear hi
    go_enter Try.func28, Try.ntmps28
    go_wp2_with fail
    go_returns
    exact ⟨rfl, (by repeat' (first | exact Turns.refl _ _ | assumption | exact Or.inl rfl | exact Or.inr (Nat.le_refl _) | apply Turns.alloc | apply Turns.drew | apply Turns.drewN | apply Turns.setCell | (apply Or.inr; simp; done) | (apply Or.inr; simp; omega) | exact fun _ hh => False.elim hh | exact fun _ hh => Or.inl hh | (intro i hi; right; (try simp only at hi); omega) | (intro i hi; right; simp at hi; omega) | refine Turns.step ?_ (by assumption) ?_))⟩
set_option maxHeartbeats 400000 in
theorem place_at {w : World} {base b g o cap : Nat} {rs : List Reg} (hf : FAt w base b g o cap rs) (i : Nat) (hi : i < rs.length) :
    Calls Try.prog 28 #[.pointer (some ⟨b, 0, none⟩), .int .u32 (4 * i)] w fun e w' => e = .returned (.pointer (some ⟨g, o + i * 4, none⟩)) ∧ Turns nobody w w' := by
  obtain ⟨e1, e2⟩ := hf.few
  have ht : Int.tmod (4 * (i : Int)) 4 = 0 := by rw [Int.tmod_eq_emod_of_nonneg (by omega)]; omega
  have hd : Int.tdiv (4 * (i : Int)) 4 = i := by rw [Int.tdiv_eq_ediv_of_nonneg (by omega)]; omega
  have ht2 : (4 * (i : Int)) % 4 = 0 := by omega
  have hd2 : (4 * (i : Int)) / 4 = i := by omega
  have hw : IntKind.i64.wrap (i : Int) = i := IntWalk.i64_in _ ⟨by omega, by omega⟩
  go_enter Try.func28, Try.ntmps28
  go_wp2_with fail
  refine (find_at hf i hi).mono ?_
  rintro e w1 ⟨rfl, k1⟩
  go_wp2_with fail
  go_returns
  exact ⟨rfl, (by repeat' (first | exact Turns.refl _ _ | assumption | exact Or.inl rfl | exact Or.inr (Nat.le_refl _) | apply Turns.alloc | apply Turns.drew | apply Turns.drewN | apply Turns.setCell | (apply Or.inr; simp; done) | (apply Or.inr; simp; omega) | exact fun _ hh => False.elim hh | exact fun _ hh => Or.inl hh | (intro i hi; right; (try simp only at hi); omega) | (intro i hi; right; simp at hi; omega) | refine Turns.step ?_ (by assumption) ?_))⟩

/-- What the bus lets a register be. -/
def busVal (r : Reg) (v : Int) : Int := bits .andNot .u32 (bits .or .u32 (bits .andNot .u32 r.v r.p) (bits .and .u32 v r.p)) (bits .and .u32 v r.c)

set_option maxHeartbeats 400000 in
theorem bus_at {w : World} {base b g o cap : Nat} {rs : List Reg} (h : FAt w base b g o cap rs) (i : Nat) {r : Reg} (hi : rs[i]? = some r) (v : Int) :
    Calls Try.prog 29 #[.pointer (some ⟨g, o + i * 4, none⟩), .int .u32 v] w fun e w' => e = .returned (.tuple #[]) ∧ FAt w' base b g o cap (rs.set i { r with v := busVal r v }) ∧ Turns (· = g) w w' := by
  obtain ⟨l1, c0, c1, c2, c3, f1⟩ := h.reg hi
  have hil := (List.getElem?_eq_some_iff.1 hi).1
  go_enter Try.func29, Try.ntmps29
  go_wp2_with fail
  go_still_tail 21, (by kernel_rfl)
  change wpList _ _ _ _ _ w.drew
  go_wp2_with fail
  obtain ⟨w1, e1⟩ : ∃ w1, w1 = (w.setCell ⟨g, o + i * 4 + 3, none⟩ (.int .u32 (bits .or .u32 (bits .andNot .u32 r.v r.p) (bits .and .u32 v r.p)))).drew := ⟨_, rfl⟩
  have h1 : FAt w1 base b g o cap (rs.set i { r with v := bits .or .u32 (bits .andNot .u32 r.v r.p) (bits .and .u32 v r.p) }) := by
    rw [e1]; exact (h.put hi _).still ((Turns.refl nobody _).drew)
  have k1 : Turns (· = g) w w1 := by rw [e1]; exact (by repeat' (first | exact Turns.refl _ _ | assumption | exact Or.inl rfl | exact Or.inr (Nat.le_refl _) | apply Turns.alloc | apply Turns.drew | apply Turns.drewN | apply Turns.setCell | (apply Or.inr; simp; done) | (apply Or.inr; simp; omega) | exact fun _ hh => False.elim hh | exact fun _ hh => Or.inl hh | (intro i hi; right; (try simp only at hi); omega) | (intro i hi; right; simp at hi; omega) | refine Turns.step ?_ (by assumption) ?_))
  rw [← e1]
  clear e1 c0 c1 c2 c3 f1
  have hi1 : (rs.set i { r with v := bits .or .u32 (bits .andNot .u32 r.v r.p) (bits .and .u32 v r.p) })[i]? = some { r with v := bits .or .u32 (bits .andNot .u32 r.v r.p) (bits .and .u32 v r.p) } := by simp [hil]
  obtain ⟨l2, c0, c1, c2, c3, f1⟩ := h1.reg hi1
  simp only at c0 c1 c2 c3
  go_still_tail 14, (by kernel_rfl)
  change wpList _ _ _ _ _ w1.drew
  go_wp2_with fail
  go_returns
  have h2 := (h1.put hi1 (busVal r v)).still ((Turns.refl nobody _).drew)
  simp only [List.set_set] at h2
  exact ⟨rfl, h2, (by repeat' (first | exact Turns.refl _ _ | assumption | exact Or.inl rfl | exact Or.inr (Nat.le_refl _) | apply Turns.alloc | apply Turns.drew | apply Turns.drewN | apply Turns.setCell | (apply Or.inr; simp; done) | (apply Or.inr; simp; omega) | exact fun _ hh => False.elim hh | exact fun _ hh => Or.inl hh | (intro i hi; right; (try simp only at hi); omega) | (intro i hi; right; simp at hi; omega) | refine Turns.step ?_ (by assumption) ?_))⟩

set_option maxHeartbeats 400000 in
theorem write_nil (a v : Int) (w : World) (h0 : 0 ≤ a) (h1 : a ≤ 4294967295) : Calls Try.prog 13 #[.pointer none, .int .u32 a, .int .u32 v] w fun e w' => e = .returned (.int .i64 7) ∧ Turns nobody w w' := by
  go_enter Try.func13, Try.ntmps13
  go_wp2_with fail
  refine (place_nil a _ h0 h1).mono ?_
  rintro e w1 ⟨rfl, k1⟩
  go_wp2_with fail
  go_returns
  exact ⟨rfl, (by repeat' (first | exact Turns.refl _ _ | assumption | exact Or.inl rfl | exact Or.inr (Nat.le_refl _) | apply Turns.alloc | apply Turns.drew | apply Turns.drewN | apply Turns.setCell | (apply Or.inr; simp; done) | (apply Or.inr; simp; omega) | exact fun _ hh => False.elim hh | exact fun _ hh => Or.inl hh | (intro i hi; right; (try simp only at hi); omega) | (intro i hi; right; simp at hi; omega) | refine Turns.step ?_ (by assumption) ?_))⟩
set_option maxHeartbeats 400000 in
theorem write_none {w : World} {base b g o cap : Nat} {rs : List Reg} (hf : FAt w base b g o cap rs) (a v : Int) (h0 : 0 ≤ a) (h1 : a ≤ 4294967295) (hi : a % 4 ≠ 0 ∨ (rs.length : Int) ≤ a / 4) :
    Calls Try.prog 13 #[.pointer (some ⟨b, 0, none⟩), .int .u32 a, .int .u32 v] w fun e w' => e = .returned (.int .i64 7) ∧ Turns nobody w w' := by
  go_enter Try.func13, Try.ntmps13
  go_wp2_with fail
  refine (place_none hf a h0 h1 hi).mono ?_
  rintro e w1 ⟨rfl, k1⟩
  go_wp2_with fail
  go_returns
  exact ⟨rfl, (by repeat' (first | exact Turns.refl _ _ | assumption | exact Or.inl rfl | exact Or.inr (Nat.le_refl _) | apply Turns.alloc | apply Turns.drew | apply Turns.drewN | apply Turns.setCell | (apply Or.inr; simp; done) | (apply Or.inr; simp; omega) | exact fun _ hh => False.elim hh | exact fun _ hh => Or.inl hh | (intro i hi; right; (try simp only at hi); omega) | (intro i hi; right; simp at hi; omega) | refine Turns.step ?_ (by assumption) ?_))⟩
set_option maxHeartbeats 400000 in
theorem write_at {w : World} {base b g o cap : Nat} {rs : List Reg} (hf : FAt w base b g o cap rs) (i : Nat) {r : Reg} (hi : rs[i]? = some r) (v : Int) :
    Calls Try.prog 13 #[.pointer (some ⟨b, 0, none⟩), .int .u32 (4 * i), .int .u32 v] w fun e w' => e = .returned (.int .i64 0) ∧ FAt w' base b g o cap (rs.set i { r with v := busVal r v }) ∧ Turns (· = g) w w' := by
  go_enter Try.func13, Try.ntmps13
  go_wp2_with fail
  refine (place_at hf i (List.getElem?_eq_some_iff.1 hi).1).mono ?_
  rintro e w1 ⟨rfl, k1⟩
  have h1 := hf.still k1
  go_wp2_with fail
  refine (bus_at h1 i hi v).mono ?_
  rintro e w2 ⟨rfl, h2, k2⟩
  go_wp2_with fail
  go_returns
  exact ⟨rfl, h2, (by repeat' (first | exact Turns.refl _ _ | assumption | exact Or.inl rfl | exact Or.inr (Nat.le_refl _) | apply Turns.alloc | apply Turns.drew | apply Turns.drewN | apply Turns.setCell | (apply Or.inr; simp; done) | (apply Or.inr; simp; omega) | exact fun _ hh => False.elim hh | exact fun _ hh => Or.inl hh | (intro i hi; right; (try simp only at hi); omega) | (intro i hi; right; simp at hi; omega) | refine Turns.step ?_ (by assumption) ?_))⟩
set_option maxHeartbeats 400000 in
theorem read_nil (a : Int) (w : World) (h0 : 0 ≤ a) (h1 : a ≤ 4294967295) : Calls Try.prog 14 #[.pointer none, .int .u32 a] w fun e w' => e = .returned (.tuple #[.int .u32 0, .int .i64 7]) ∧ Turns nobody w w' := by
  go_enter Try.func14, Try.ntmps14
  go_wp2_with fail
  refine (place_nil a _ h0 h1).mono ?_
  rintro e w1 ⟨rfl, k1⟩
  go_wp2_with fail
  go_returns
  exact ⟨rfl, (by repeat' (first | exact Turns.refl _ _ | assumption | exact Or.inl rfl | exact Or.inr (Nat.le_refl _) | apply Turns.alloc | apply Turns.drew | apply Turns.drewN | apply Turns.setCell | (apply Or.inr; simp; done) | (apply Or.inr; simp; omega) | exact fun _ hh => False.elim hh | exact fun _ hh => Or.inl hh | (intro i hi; right; (try simp only at hi); omega) | (intro i hi; right; simp at hi; omega) | refine Turns.step ?_ (by assumption) ?_))⟩
set_option maxHeartbeats 400000 in
theorem read_none {w : World} {base b g o cap : Nat} {rs : List Reg} (hf : FAt w base b g o cap rs) (a : Int) (h0 : 0 ≤ a) (h1 : a ≤ 4294967295) (hi : a % 4 ≠ 0 ∨ (rs.length : Int) ≤ a / 4) :
    Calls Try.prog 14 #[.pointer (some ⟨b, 0, none⟩), .int .u32 a] w fun e w' => e = .returned (.tuple #[.int .u32 0, .int .i64 7]) ∧ Turns nobody w w' := by
  go_enter Try.func14, Try.ntmps14
  go_wp2_with fail
  refine (place_none hf a h0 h1 hi).mono ?_
  rintro e w1 ⟨rfl, k1⟩
  go_wp2_with fail
  go_returns
  exact ⟨rfl, (by repeat' (first | exact Turns.refl _ _ | assumption | exact Or.inl rfl | exact Or.inr (Nat.le_refl _) | apply Turns.alloc | apply Turns.drew | apply Turns.drewN | apply Turns.setCell | (apply Or.inr; simp; done) | (apply Or.inr; simp; omega) | exact fun _ hh => False.elim hh | exact fun _ hh => Or.inl hh | (intro i hi; right; (try simp only at hi); omega) | (intro i hi; right; simp at hi; omega) | refine Turns.step ?_ (by assumption) ?_))⟩
set_option maxHeartbeats 400000 in
theorem read_at {w : World} {base b g o cap : Nat} {rs : List Reg} (hf : FAt w base b g o cap rs) (i : Nat) {r : Reg} (hi : rs[i]? = some r) :
    Calls Try.prog 14 #[.pointer (some ⟨b, 0, none⟩), .int .u32 (4 * i)] w fun e w' => e = .returned (.tuple #[.int .u32 r.v, .int .i64 0]) ∧ Turns nobody w w' := by
  go_enter Try.func14, Try.ntmps14
  go_wp2_with fail
  refine (place_at hf i (List.getElem?_eq_some_iff.1 hi).1).mono ?_
  rintro e w1 ⟨rfl, k1⟩
  obtain ⟨l1, _, _, _, c3, f1⟩ := (hf.still k1).reg hi
  go_wp2_with fail
  go_returns
  exact ⟨rfl, (by repeat' (first | exact Turns.refl _ _ | assumption | exact Or.inl rfl | exact Or.inr (Nat.le_refl _) | apply Turns.alloc | apply Turns.drew | apply Turns.drewN | apply Turns.setCell | (apply Or.inr; simp; done) | (apply Or.inr; simp; omega) | exact fun _ hh => False.elim hh | exact fun _ hh => Or.inl hh | (intro i hi; right; (try simp only at hi); omega) | (intro i hi; right; simp at hi; omega) | refine Turns.step ?_ (by assumption) ?_))⟩
set_option maxHeartbeats 400000 in
theorem reset_nil (w : World) : Calls Try.prog 18 #[.pointer none] w fun e w' => e = .returned (.tuple #[]) ∧ Turns nobody w w' := by
  go_enter Try.func18, Try.ntmps18
  go_wp2
  go_returns
  exact ⟨rfl, (by repeat' (first | exact Turns.refl _ _ | assumption | exact Or.inl rfl | exact Or.inr (Nat.le_refl _) | apply Turns.alloc | apply Turns.drew | apply Turns.drewN | apply Turns.setCell | (apply Or.inr; simp; done) | (apply Or.inr; simp; omega) | exact fun _ hh => False.elim hh | exact fun _ hh => Or.inl hh | (intro i hi; right; (try simp only at hi); omega) | (intro i hi; right; simp at hi; omega) | refine Turns.step ?_ (by assumption) ?_))⟩

def resetN (rs : List Reg) (k : Nat) : List Reg := (rs.take k).map (fun r => { r with v := r.r }) ++ rs.drop k
theorem resetN_length (rs : List Reg) (k : Nat) : (resetN rs k).length = rs.length := by simp [resetN]; omega
theorem resetN_zero (rs : List Reg) : resetN rs 0 = rs := by simp [resetN]
theorem resetN_all (rs : List Reg) : resetN rs rs.length = rs.map (fun r => { r with v := r.r }) := by simp [resetN]
theorem resetN_get {rs : List Reg} {k : Nat} {r : Reg} (h : rs[k]? = some r) : (resetN rs k)[k]? = some r := by
  have hk := (List.getElem?_eq_some_iff.1 h).1
  unfold resetN
  rw [List.getElem?_append_right (by simp; omega)]
  simp [h, Nat.min_eq_left (Nat.le_of_lt hk)]
theorem resetN_set {rs : List Reg} {k : Nat} {r : Reg} (h : rs[k]? = some r) : (resetN rs k).set k { r with v := r.r } = resetN rs (k + 1) := by
  have hk := (List.getElem?_eq_some_iff.1 h).1
  have hr := (List.getElem?_eq_some_iff.1 h).2
  unfold resetN
  rw [List.set_append_right _ _ (by simp; omega)]
  simp only [List.length_map, List.length_take, Nat.min_eq_left (Nat.le_of_lt hk), Nat.sub_self]
  rw [List.drop_eq_getElem_cons hk, hr, List.set_cons_zero, List.take_add_one, h]
  simp

set_option maxHeartbeats 400000 in
theorem reset_at {w : World} {base b g o cap : Nat} {rs : List Reg} (hf : FAt w base b g o cap rs) :
    Calls Try.prog 18 #[.pointer (some ⟨b, 0, none⟩)] w fun e w' => e = .returned (.tuple #[]) ∧ FAt w' base b g o cap (rs.map (fun r => { r with v := r.r })) ∧ Turns (· = g) w w' := by
  obtain ⟨l0, c0, f0⟩ := hf.head
  obtain ⟨n0, n1⟩ := hf.few
  have h0 : FAt w base b g o cap (resetN rs 0) := by rw [resetN_zero]; exact hf
  go_enter Try.func18, Try.ntmps18
  go_wp2_with fail
  go_loopw [10] (fun i wr => ∃ k : Nat, k ≤ rs.length ∧ i = .int .i64 k ∧ FAt wr base b g o cap (resetN rs k) ∧ Turns (· = g) w wr) (fun i _ => rs.length - (intOf i).toNat)
  case atStart => exact ⟨0, Nat.zero_le _, rfl, h0, Turns.refl _ _⟩
  case round =>
    clear h0 l0 c0 f0
    obtain ⟨k, hk, rfl, h1, k1⟩ := hrel
    by_cases hlt : k < rs.length
    · obtain ⟨r, hr⟩ : ∃ r, rs[k]? = some r := ⟨_, List.getElem?_eq_getElem hlt⟩
      obtain ⟨l0, c0, f0⟩ := h1.head
      rw [resetN_length] at c0
      obtain ⟨l2, c3, _, _, _, f1⟩ := h1.reg (resetN_get hr)
      have i0 : (0 : Int) ≤ (k : Int) := by omega
      have i1 : (k : Int) < (rs.length : Int) := by omega
      go_wp2_with fail
      go_still_tail 16, (by kernel_rfl)
      change wpList _ _ _ _ _ wr.drew
      go_wp2_with fail
      have h2 := (h1.put (resetN_get hr) r.r).still ((Turns.refl nobody _).drew)
      rw [resetN_set hr] at h2
      go_roundw
      case rel => exact ⟨k + 1, by omega, by go_num, h2, (by repeat' (first | exact Turns.refl _ _ | assumption | exact Or.inl rfl | exact Or.inr (Nat.le_refl _) | apply Turns.alloc | apply Turns.drew | apply Turns.drewN | apply Turns.setCell | (apply Or.inr; simp; done) | (apply Or.inr; simp; omega) | exact fun _ hh => False.elim hh | exact fun _ hh => Or.inl hh | (intro i hi; right; (try simp only at hi); omega) | (intro i hi; right; simp at hi; omega) | refine Turns.step ?_ (by assumption) ?_))⟩
      case measure => simp [intOf]; omega
    · obtain rfl : k = rs.length := by omega
      go_wp2_with fail
      go_returns
      rw [resetN_all] at h1
      exact ⟨rfl, h1, (by repeat' (first | exact Turns.refl _ _ | assumption | exact Or.inl rfl | exact Or.inr (Nat.le_refl _) | apply Turns.alloc | apply Turns.drew | apply Turns.drewN | apply Turns.setCell | (apply Or.inr; simp; done) | (apply Or.inr; simp; omega) | exact fun _ hh => False.elim hh | exact fun _ hh => Or.inl hh | (intro i hi; right; (try simp only at hi); omega) | (intro i hi; right; simp at hi; omega) | refine Turns.step ?_ (by assumption) ?_))⟩

end Go.Proofs.Ytdhifcjfkbidoaa
