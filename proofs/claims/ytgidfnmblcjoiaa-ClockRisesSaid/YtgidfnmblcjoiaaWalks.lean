/- What the clock's functions do. -/
import Derived.Test.YtgidfnmblcjoiaaBase
import Derived.Test.YtgidfnmblcjoiaaRows
namespace Go.Proofs.Ytgidfnmblcjoiaa
open Go.RowKit

/-- A clock at block b. -/
def ClockAt (w : World) (b : Nat) (s n u a : Int) : Prop := Blk w b #[.int .u64 s, .int .u32 n, .int .u32 u, .int .u64 a] 57

theorem ClockAt.cells {w : World} {b : Nat} {s n u a : Int} (h : ClockAt w b s n u a) : b < w.heap.size ∧
    w.cell? ⟨b, 0, none⟩ = some (.int .u64 s) ∧ w.cell? ⟨b, 1, none⟩ = some (.int .u32 n) ∧ w.cell? ⟨b, 2, none⟩ = some (.int .u32 u) ∧ w.cell? ⟨b, 3, none⟩ = some (.int .u64 a) ∧
    w.frozen? ⟨b, 0, none⟩ = false ∧ w.frozen? ⟨b, 1, none⟩ = false ∧ w.frozen? ⟨b, 2, none⟩ = false ∧ w.frozen? ⟨b, 3, none⟩ = false :=
  ⟨Blk.lt h, Blk.cell h 0, Blk.cell h 1, Blk.cell h 2, Blk.cell h 3, Blk.frozen h 0, Blk.frozen h 1, Blk.frozen h 2, Blk.frozen h 3⟩

set_option maxHeartbeats 400000 in
theorem new_ok (a : Int) (w : World) (h : a < 4611686018427387904) :
    Calls Try.prog 11 #[.int .u64 a] w fun e w' => e = .returned (.tuple #[.pointer (some ⟨w.heap.size, 0, none⟩), .int .i64 0]) ∧ ClockAt w' w.heap.size 0 0 0 a ∧ Turns nobody w w' := by
  go_enter Try.func11, Try.ntmps11
  go_wp2
  go_ret2
  exact ⟨rfl, Blk.new _ _ _, (Turns.refl _ _).alloc _⟩

set_option maxHeartbeats 400000 in
theorem new_bad (a : Int) (w : World) (h : 4611686018427387904 ≤ a) :
    Calls Try.prog 11 #[.int .u64 a] w fun e w' => e = .returned (.tuple #[.pointer none, .int .i64 1]) ∧ w = w' := by
  go_enter Try.func11, Try.ntmps11
  go_wp2
  go_ret2
  exact ⟨rfl, rfl⟩

set_option maxHeartbeats 400000 in
theorem now_at (b : Nat) (s n u a : Int) (w : World) (h : ClockAt w b s n u a) :
    Calls Try.prog 14 #[.pointer (some ⟨b, 0, none⟩)] w fun e w' => e = .returned (.agg #[.int .u64 s, .int .u32 n, .int .u32 u]) ∧ Turns nobody w w' := by
  obtain ⟨hlt, c0, c1, c2, c3, f0, f1, f2, f3⟩ := h.cells
  go_enter Try.func14, Try.ntmps14
  go_wp2
  go_returns
  exact ⟨rfl, (Turns.refl _ _).alloc _⟩

set_option maxHeartbeats 400000 in
theorem now_nil (w : World) :
    Calls Try.prog 14 #[.pointer none] w fun e w' => e = .returned (.agg #[.int .u64 0, .int .u32 0, .int .u32 0]) ∧ Turns nobody w w' := by
  go_enter Try.func14, Try.ntmps14
  go_wp2
  go_returns
  exact ⟨rfl, (Turns.refl _ _).alloc _⟩

/-- A clock's seconds and nanoseconds, x nanoseconds later. -/
def onS (s n x : Int) : Int := (s + x / 1000000000 + (x % 1000000000 + n) / 1000000000) % 281474976710656
def onN (n x : Int) : Int := (x + n) % 1000000000

set_option maxHeartbeats 400000 in
theorem on_at (b : Nat) (s n u a x : Int) (w : World) (h : ClockAt w b s n u a) (hs0 : 0 ≤ s) (hs : s < 281474976710656) (hn0 : 0 ≤ n) (hn : n < 1000000000) (hx0 : 0 ≤ x) (hx : x < 9223372036854775808) :
    Calls Try.prog 24 #[.pointer (some ⟨b, 0, none⟩), .int .u64 x] w fun e w' => e = .returned (.tuple #[]) ∧
      ClockAt w' b (onS s n x) (onN n x) u a ∧ Turns (· = b) w w' := by
  obtain ⟨hlt, c0, c1, c2, c3, f0, f1, f2, f3⟩ := h.cells
  go_enter Try.func24, Try.ntmps24
  go_wp2
  go_end0
  exact ⟨rfl, by unfold ClockAt onS onN; simpa using (Blk.set (Blk.set h 0 _) 1 _), (by repeat' (first | exact Turns.refl _ _ | assumption | exact Or.inl rfl | exact Or.inr (Nat.le_refl _) | apply Turns.alloc | apply Turns.drew | apply Turns.drewN | apply Turns.setCell | (apply Or.inr; simp; done) | (apply Or.inr; simp; omega) | exact fun _ hh => False.elim hh | exact fun _ hh => Or.inl hh | (intro i hi; right; (try simp only at hi); omega) | (intro i hi; right; simp at hi; omega) | refine Turns.step ?_ (by assumption) ?_))⟩

set_option maxHeartbeats 400000 in
theorem add32_at (x y : Int) (w : World) (h0 : 0 ≤ x) (h1 : x < 4294967296) (h2 : 0 ≤ y) (h3 : y < 4294967296) :
    Calls Try.prog 26 #[.int .u32 x, .int .u32 y, .int .u32 0] w fun e w' => e = .returned (.tuple #[.int .u32 ((x + y) % 4294967296), .int .u32 ((x + y) / 4294967296)]) ∧ w' = w := by
  go_enter Try.func26, Try.ntmps26
  go_wp2
  go_returns
  exact ⟨rfl, rfl⟩

set_option maxHeartbeats 400000 in
theorem set_ok (b : Nat) (s n u a s' n' u' : Int) (w : World) (h : ClockAt w b s n u a) (h1 : s' < 281474976710656) (h2 : n' < 1000000000) :
    Calls Try.prog 12 #[.pointer (some ⟨b, 0, none⟩), .agg #[.int .u64 s', .int .u32 n', .int .u32 u']] w fun e w' => e = .returned (.int .i64 0) ∧
      ClockAt w' b s' n' u' a ∧ Turns (· = b) w w' := by
  obtain ⟨hlt, c0, c1, c2, c3, f0, f1, f2, f3⟩ := h.cells
  go_enter Try.func12, Try.ntmps12
  go_wp2
  go_returns
  exact ⟨rfl, by unfold ClockAt; simpa using (Blk.alloc (Blk.set (Blk.set (Blk.set h 0 _) 1 _) 2 _) _), (by repeat' (first | exact Turns.refl _ _ | assumption | exact Or.inl rfl | exact Or.inr (Nat.le_refl _) | apply Turns.alloc | apply Turns.drew | apply Turns.drewN | apply Turns.setCell | (apply Or.inr; simp; done) | (apply Or.inr; simp; omega) | exact fun _ hh => False.elim hh | exact fun _ hh => Or.inl hh | (intro i hi; right; (try simp only at hi); omega) | (intro i hi; right; simp at hi; omega) | refine Turns.step ?_ (by assumption) ?_))⟩

set_option maxHeartbeats 400000 in
theorem set_bad (b : Option Addr) (s' n' u' : Int) (w : World) (h : 281474976710656 ≤ s' ∨ 1000000000 ≤ n') :
    Calls Try.prog 12 #[.pointer b, .agg #[.int .u64 s', .int .u32 n', .int .u32 u']] w fun e w' => e = .returned (.int .i64 1) ∧ Turns nobody w w' := by
  by_cases hb : b = none
  · subst hb
    go_enter Try.func12, Try.ntmps12
    go_wp2
    all_goals go_returns
    all_goals exact ⟨rfl, (Turns.refl _ _).alloc _⟩
  · obtain ⟨x, rfl⟩ : ∃ x, b = some x := by cases b with | none => exact absurd rfl hb | some x => exact ⟨x, rfl⟩
    by_cases h1 : 281474976710656 ≤ s'
    · clear h
      go_enter Try.func12, Try.ntmps12
      go_wp2
      all_goals go_returns
      all_goals exact ⟨rfl, (Turns.refl _ _).alloc _⟩
    · have h2 : 1000000000 ≤ n' := by omega
      clear h
      go_enter Try.func12, Try.ntmps12
      go_wp2
      all_goals go_returns
      all_goals exact ⟨rfl, (Turns.refl _ _).alloc _⟩

set_option maxHeartbeats 400000 in
theorem fine_ok (b : Nat) (s n u a a' : Int) (w : World) (h : ClockAt w b s n u a) (h1 : a' < 4611686018427387904) :
    Calls Try.prog 22 #[.pointer (some ⟨b, 0, none⟩), .int .u64 a'] w fun e w' => e = .returned (.int .i64 0) ∧ ClockAt w' b s n u a' ∧ Turns (· = b) w w' := by
  obtain ⟨hlt, c0, c1, c2, c3, f0, f1, f2, f3⟩ := h.cells
  go_enter Try.func22, Try.ntmps22
  go_wp2
  go_returns
  exact ⟨rfl, by unfold ClockAt; simpa using (Blk.set h 3 _), (by repeat' (first | exact Turns.refl _ _ | assumption | exact Or.inl rfl | exact Or.inr (Nat.le_refl _) | apply Turns.alloc | apply Turns.drew | apply Turns.drewN | apply Turns.setCell | (apply Or.inr; simp; done) | (apply Or.inr; simp; omega) | exact fun _ hh => False.elim hh | exact fun _ hh => Or.inl hh | (intro i hi; right; (try simp only at hi); omega) | (intro i hi; right; simp at hi; omega) | refine Turns.step ?_ (by assumption) ?_))⟩

set_option maxHeartbeats 400000 in
theorem fine_bad (b : Nat) (a' : Int) (w : World) (h1 : 4611686018427387904 ≤ a') :
    Calls Try.prog 22 #[.pointer (some ⟨b, 0, none⟩), .int .u64 a'] w fun e w' => e = .returned (.int .i64 1) ∧ Turns nobody w w' := by
  go_enter Try.func22, Try.ntmps22
  go_wp2
  go_returns
  exact ⟨rfl, Turns.refl _ _⟩

set_option maxHeartbeats 400000 in
theorem nil_calls (x a' : Int) (w : World) :
    Calls Try.prog 22 #[.pointer none, .int .u64 a'] w (fun e w' => e = .returned (.int .i64 1) ∧ Turns nobody w w') ∧
    Calls Try.prog 13 #[.pointer none, .int .i64 x] w (fun e w' => e = .returned (.int .i64 1) ∧ Turns nobody w w') ∧
    Calls Try.prog 18 #[.pointer none] w (fun e w' => e = .returned (.tuple #[]) ∧ Turns nobody w w') := by
  refine ⟨?_, ?_, ?_⟩
  · go_enter Try.func22, Try.ntmps22
    go_wp2
    go_returns
    exact ⟨rfl, Turns.refl _ _⟩
  · go_enter Try.func13, Try.ntmps13
    go_wp2
    go_returns
    exact ⟨rfl, Turns.refl _ _⟩
  · go_enter Try.func18, Try.ntmps18
    go_wp2
    go_returns
    exact ⟨rfl, Turns.refl _ _⟩

set_option maxHeartbeats 400000 in
theorem tick_at (b : Nat) (s n u a : Int) (w : World) (h : ClockAt w b s n u a) (hs0 : 0 ≤ s) (hs : s < 281474976710656) (hn0 : 0 ≤ n) (hn : n < 1000000000)
    (hu0 : 0 ≤ u) (hu : u < 4294967296) (ha0 : 0 ≤ a) (ha : a < 4611686018427387904) :
    Calls Try.prog 18 #[.pointer (some ⟨b, 0, none⟩)] w fun e w' => e = .returned (.tuple #[]) ∧
      ClockAt w' b (onS s n (a / 4294967296 + (u + a % 4294967296) / 4294967296)) (onN n (a / 4294967296 + (u + a % 4294967296) / 4294967296)) ((u + a % 4294967296) % 4294967296) a ∧ Turns (· = b) w w' := by
  obtain ⟨hlt, c0, c1, c2, c3, f0, f1, f2, f3⟩ := h.cells
  go_enter Try.func18, Try.ntmps18
  go_wp2_with fail
  go_quiet ((go_at_call 26; exact Calls.quiet_of_same (add32_at _ _ _ (by omega) (by omega) (by omega) (by omega))))
  go_wp2_with fail
  have h2 : ClockAt ((w.drewN nq).setCell ⟨b, 2, none⟩ (.int .u32 ((u + a) % 4294967296))) b s n ((u + a) % 4294967296) a := by unfold ClockAt; simpa using Blk.set (Blk.drewN h nq) 2 _
  refine (on_at b s n _ a _ _ h2 hs0 hs hn0 hn (by omega) (by omega)).mono ?_
  rintro e w' ⟨rfl, h3, k3⟩
  go_wp2
  go_end0
  refine ⟨rfl, ?_, Turns.trans (by repeat' (first | exact Turns.refl _ _ | assumption | exact Or.inl rfl | exact Or.inr (Nat.le_refl _) | apply Turns.alloc | apply Turns.drew | apply Turns.drewN | apply Turns.setCell | (apply Or.inr; simp; done) | (apply Or.inr; simp; omega) | exact fun _ hh => False.elim hh | exact fun _ hh => Or.inl hh | (intro i hi; right; (try simp only at hi); omega) | (intro i hi; right; simp at hi; omega) | refine Turns.step ?_ (by assumption) ?_)) k3⟩
  rw [show (u + a % 4294967296) % 4294967296 = (u + a) % 4294967296 from by omega]
  exact h3

set_option maxHeartbeats 400000 in
theorem adjust_up (b : Nat) (s n u a x : Int) (w : World) (h : ClockAt w b s n u a) (hs0 : 0 ≤ s) (hs : s < 281474976710656) (hn0 : 0 ≤ n) (hn : n < 1000000000)
    (h0 : 0 ≤ x) (h1 : x ≤ 4611686018427387904) :
    Calls Try.prog 13 #[.pointer (some ⟨b, 0, none⟩), .int .i64 x] w fun e w' => e = .returned (.int .i64 0) ∧
      ClockAt w' b (onS s n x) (onN n x) u a ∧ Turns (· = b) w w' := by
  obtain ⟨hlt, c0, c1, c2, c3, f0, f1, f2, f3⟩ := h.cells
  go_enter Try.func13, Try.ntmps13
  go_wp2_with fail
  refine (on_at b s n u a _ _ h hs0 hs hn0 hn (by omega) (by omega)).mono ?_
  rintro e w' ⟨rfl, h3, k3⟩
  go_wp2
  go_returns
  exact ⟨rfl, h3, k3⟩

/-- A clock's seconds and nanoseconds, x nanoseconds earlier. -/
def offS (s n x : Int) : Int := if x % 1000000000 = 0 then (s + 281474976710656 - x / 1000000000) % 281474976710656
  else onS (((s + 281474976710656 - x / 1000000000) % 281474976710656 + 281474976710656 - 1) % 281474976710656) n (1000000000 - x % 1000000000)
def offN (n x : Int) : Int := if x % 1000000000 = 0 then n else onN n (1000000000 - x % 1000000000)

set_option maxHeartbeats 400000 in
theorem adjust_down (b : Nat) (s n u a y : Int) (w : World) (h : ClockAt w b s n u a) (hs0 : 0 ≤ s) (hs : s < 281474976710656) (hn0 : 0 ≤ n) (hn : n < 1000000000)
    (h0 : 0 < y) (h1 : y ≤ 4611686018427387904) :
    Calls Try.prog 13 #[.pointer (some ⟨b, 0, none⟩), .int .i64 (-y)] w fun e w' => e = .returned (.int .i64 0) ∧
      ClockAt w' b (offS s n y) (offN n y) u a ∧ Turns (· = b) w w' := by
  obtain ⟨hlt, c0, c1, c2, c3, f0, f1, f2, f3⟩ := h.cells
  by_cases hr : y % 1000000000 = 0
  · have e1 : offS s n y = (s + 281474976710656 - y / 1000000000) % 281474976710656 := by unfold offS; rw [if_pos hr]
    have e2 : offN n y = n := by unfold offN; rw [if_pos hr]
    rw [e1, e2]
    clear e1 e2
    have hr' : y % 1000000000 ≤ 0 := by omega
    clear hr
    go_enter Try.func13, Try.ntmps13
    go_wp2_with fail
    go_returns
    exact ⟨rfl, by unfold ClockAt; simpa using Blk.set h 0 _, (by repeat' (first | exact Turns.refl _ _ | assumption | exact Or.inl rfl | exact Or.inr (Nat.le_refl _) | apply Turns.alloc | apply Turns.drew | apply Turns.drewN | apply Turns.setCell | (apply Or.inr; simp; done) | (apply Or.inr; simp; omega) | exact fun _ hh => False.elim hh | exact fun _ hh => Or.inl hh | (intro i hi; right; (try simp only at hi); omega) | (intro i hi; right; simp at hi; omega) | refine Turns.step ?_ (by assumption) ?_))⟩
  · have e1 : offS s n y = onS (((s + 281474976710656 - y / 1000000000) % 281474976710656 + 281474976710656 - 1) % 281474976710656) n (1000000000 - y % 1000000000) := by unfold offS; rw [if_neg hr]
    have e2 : offN n y = onN n (1000000000 - y % 1000000000) := by unfold offN; rw [if_neg hr]
    rw [e1, e2]
    clear e1 e2
    have hr' : 0 < y % 1000000000 := by omega
    clear hr
    go_enter Try.func13, Try.ntmps13
    go_wp2_with fail
    have h2 : ClockAt ((w.setCell ⟨b, 0, none⟩ (.int .u64 ((s + 281474976710656 - y / 1000000000) % 281474976710656))).setCell ⟨b, 0, none⟩ (.int .u64 (((s + 281474976710656 - y / 1000000000) % 281474976710656 + 281474976710656 - 1) % 281474976710656)))
        b (((s + 281474976710656 - y / 1000000000) % 281474976710656 + 281474976710656 - 1) % 281474976710656) n u a := by unfold ClockAt; simpa using Blk.set (Blk.set h 0 _) 0 _
    refine (on_at b _ n u a _ _ h2 (by omega) (by omega) hn0 hn (by omega) (by omega)).mono ?_
    rintro e w' ⟨rfl, h3, k3⟩
    go_wp2
    go_returns
    exact ⟨rfl, h3, Turns.trans (by repeat' (first | exact Turns.refl _ _ | assumption | exact Or.inl rfl | exact Or.inr (Nat.le_refl _) | apply Turns.alloc | apply Turns.drew | apply Turns.drewN | apply Turns.setCell | (apply Or.inr; simp; done) | (apply Or.inr; simp; omega) | exact fun _ hh => False.elim hh | exact fun _ hh => Or.inl hh | (intro i hi; right; (try simp only at hi); omega) | (intro i hi; right; simp at hi; omega) | refine Turns.step ?_ (by assumption) ?_)) k3⟩

theorem adjust_bad (x : Int) (b : Nat) (w : World) (h : x < -4611686018427387904 ∨ 4611686018427387904 < x) :
    Calls Try.prog 13 #[.pointer (some ⟨b, 0, none⟩), .int .i64 x] w fun e w' => e = .returned (.int .i64 1) ∧ Turns nobody w w' := by
  by_cases h1 : x < -4611686018427387904
  · clear h
    go_enter Try.func13, Try.ntmps13
    go_wp2
    go_returns
    exact ⟨rfl, Turns.refl _ _⟩
  · have h2 : 4611686018427387904 < x := by omega
    clear h
    go_enter Try.func13, Try.ntmps13
    go_wp2
    go_returns
    exact ⟨rfl, Turns.refl _ _⟩

end Go.Proofs.Ytgidfnmblcjoiaa
