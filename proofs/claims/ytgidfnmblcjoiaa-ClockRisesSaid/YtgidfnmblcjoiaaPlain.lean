/- A clock told by how many nanoseconds it is from its begin: plain laws, and the contracts in these words. -/
import Derived.Test.YtgidfnmblcjoiaaLaws
set_option linter.unusedVariables false
namespace Go.Proofs.Ytgidfnmblcjoiaa
open Go.RowKit

theorem onS_eq (t x : Int) (h0 : 0 ≤ t) (h1 : t < 281474976710656000000000) (hx : 0 ≤ x) : onS (t / 1000000000) (t % 1000000000) x = (t + x) % 281474976710656000000000 / 1000000000 := by
  unfold onS
  rw [show t / 1000000000 + x / 1000000000 + (x % 1000000000 + t % 1000000000) / 1000000000 = (t + x) / 1000000000 from by omega]
  generalize t + x = y
  omega
theorem onN_eq (t x : Int) : onN (t % 1000000000) x = (t + x) % 281474976710656000000000 % 1000000000 := by
  unfold onN
  omega
theorem offS_eq (t y : Int) (h0 : 0 ≤ t) (h1 : t < 281474976710656000000000) (hy : 0 ≤ y) : offS (t / 1000000000) (t % 1000000000) y = (t - y) % 281474976710656000000000 / 1000000000 := by
  unfold offS
  split
  · rename_i h
    rw [show t / 1000000000 + 281474976710656 - y / 1000000000 = (t - y) / 1000000000 + 281474976710656 from by omega]
    generalize t - y = z
    omega
  · rename_i h
    unfold onS
    have e1 : (1000000000 - y % 1000000000) / 1000000000 = 0 := by omega
    have e2 : (1000000000 - y % 1000000000) % 1000000000 = 1000000000 - y % 1000000000 := by omega
    rw [e1, e2]
    have e3 : (1000000000 - y % 1000000000 + t % 1000000000) / 1000000000 = (t - y) / 1000000000 - (t / 1000000000 - y / 1000000000) + 1 := by omega
    rw [e3]
    generalize t / 1000000000 = a at *
    generalize y / 1000000000 = b at *
    rw [show (t - y) % 281474976710656000000000 / 1000000000 = (t - y) / 1000000000 % 281474976710656 from by omega]
    generalize (t - y) / 1000000000 = c at *
    omega
theorem offN_eq (t y : Int) : offN (t % 1000000000) y = (t - y) % 281474976710656000000000 % 1000000000 := by
  unfold offN onN
  split <;> omega

/-- A clock that is t nanoseconds from its begin, and u parts. -/
structure CT (w : World) (b : Nat) (t u a : Int) : Prop where
  at_ : ClockAt w b (t / 1000000000) (t % 1000000000) u a
  t0 : 0 ≤ t
  t1 : t < 281474976710656000000000
  u0 : 0 ≤ u
  u1 : u < 4294967296

theorem CT.turns {w w' : World} {b : Nat} {t u a : Int} {S : Nat → Prop} (h : CT w b t u a) (k : Turns S w w') (hn : ¬ S b) : CT w' b t u a := ⟨Blk.turns h.at_ k hn, h.t0, h.t1, h.u0, h.u1⟩
theorem CT.alloc {w : World} {b : Nat} {t u a : Int} (h : CT w b t u a) (o : Obj) : CT (w.alloc o) b t u a := ⟨Blk.alloc h.at_ o, h.t0, h.t1, h.u0, h.u1⟩
theorem CT.lt {w : World} {b : Nat} {t u a : Int} (h : CT w b t u a) : b < w.heap.size := Blk.lt h.at_

theorem newT (a : Int) (w : World) (h : a < 4611686018427387904) :
    Calls Try.prog 11 #[.int .u64 a] w fun e w' => e = .returned (.tuple #[.pointer (some ⟨w.heap.size, 0, none⟩), .int .i64 0]) ∧ CT w' w.heap.size 0 0 a ∧ Turns nobody w w' :=
  (new_ok a w h).mono fun _ _ ⟨h1, h2, h3⟩ => ⟨h1, ⟨h2, by omega, by omega, by omega, by omega⟩, h3⟩
theorem nowT {b : Nat} {t u a : Int} {w : World} (h : CT w b t u a) :
    Calls Try.prog 14 #[.pointer (some ⟨b, 0, none⟩)] w fun e w' => e = .returned (.agg #[.int .u64 (t / 1000000000), .int .u32 (t % 1000000000), .int .u32 u]) ∧ Turns nobody w w' := now_at _ _ _ _ _ _ h.at_
theorem tickT {b : Nat} {t u a : Int} {w : World} (h : CT w b t u a) (ha0 : 0 ≤ a) (ha : a < 4611686018427387904) :
    Calls Try.prog 18 #[.pointer (some ⟨b, 0, none⟩)] w fun e w' => e = .returned (.tuple #[]) ∧
      CT w' b ((t + (u + a) / 4294967296) % 281474976710656000000000) ((u + a) % 4294967296) a ∧ Turns (· = b) w w' := by
  obtain ⟨h, t0, t1, u0, u1⟩ := h
  refine (tick_at _ _ _ _ _ _ h (by omega) (by omega) (by omega) (by omega) u0 u1 ha0 ha).mono ?_
  rintro e w' ⟨h1, h2, h3⟩
  refine ⟨h1, ⟨?_, by omega, by omega, by omega, by omega⟩, h3⟩
  rw [show a / 4294967296 + (u + a % 4294967296) / 4294967296 = (u + a) / 4294967296 from by omega, show (u + a % 4294967296) % 4294967296 = (u + a) % 4294967296 from by omega, onS_eq _ _ t0 t1 (by omega), onN_eq] at h2
  exact h2
theorem setT {b : Nat} {t u a : Int} {w : World} (h : CT w b t u a) (t' u' : Int) (h0 : 0 ≤ t') (h1 : t' < 281474976710656000000000) (h2 : 0 ≤ u') (h3 : u' < 4294967296) :
    Calls Try.prog 12 #[.pointer (some ⟨b, 0, none⟩), .agg #[.int .u64 (t' / 1000000000), .int .u32 (t' % 1000000000), .int .u32 u']] w fun e w' => e = .returned (.int .i64 0) ∧
      CT w' b t' u' a ∧ Turns (· = b) w w' :=
  (set_ok _ _ _ _ _ _ _ _ _ h.at_ (by omega) (by omega)).mono fun _ _ ⟨a1, a2, a3⟩ => ⟨a1, ⟨a2, h0, h1, h2, h3⟩, a3⟩
theorem fineT {b : Nat} {t u a : Int} {w : World} (h : CT w b t u a) (a' : Int) (h1 : a' < 4611686018427387904) :
    Calls Try.prog 22 #[.pointer (some ⟨b, 0, none⟩), .int .u64 a'] w fun e w' => e = .returned (.int .i64 0) ∧ CT w' b t u a' ∧ Turns (· = b) w w' :=
  (fine_ok _ _ _ _ _ _ _ h.at_ h1).mono fun _ _ ⟨a1, a2, a3⟩ => ⟨a1, ⟨a2, h.t0, h.t1, h.u0, h.u1⟩, a3⟩
theorem adjustT {b : Nat} {t u a : Int} {w : World} (h : CT w b t u a) (x : Int) (h0 : -4611686018427387904 ≤ x) (h1 : x ≤ 4611686018427387904) :
    Calls Try.prog 13 #[.pointer (some ⟨b, 0, none⟩), .int .i64 x] w fun e w' => e = .returned (.int .i64 0) ∧
      CT w' b ((t + x) % 281474976710656000000000) u a ∧ Turns (· = b) w w' := by
  obtain ⟨h, t0, t1, u0, u1⟩ := h
  by_cases hx : 0 ≤ x
  · refine (adjust_up _ _ _ _ _ _ _ h (by omega) (by omega) (by omega) (by omega) hx h1).mono ?_
    rintro e w' ⟨a1, a2, a3⟩
    rw [onS_eq _ _ t0 t1 hx, onN_eq] at a2
    exact ⟨a1, ⟨a2, by omega, by omega, u0, u1⟩, a3⟩
  · obtain ⟨y, rfl⟩ : ∃ y, x = -y := ⟨-x, by omega⟩
    refine (adjust_down _ _ _ _ _ y _ h (by omega) (by omega) (by omega) (by omega) (by omega) (by omega)).mono ?_
    rintro e w' ⟨a1, a2, a3⟩
    rw [offS_eq _ _ t0 t1 (by omega), offN_eq] at a2
    exact ⟨a1, ⟨a2, by omega, by omega, u0, u1⟩, a3⟩
theorem adjust_out (x : Int) (b : Nat) (w : World) (h : x < -4611686018427387904 ∨ 4611686018427387904 < x) :
    Calls Try.prog 13 #[.pointer (some ⟨b, 0, none⟩), .int .i64 x] w fun e w' => e = .returned (.int .i64 1) ∧ Turns nobody w w' := adjust_bad x b w h

end Go.Proofs.Ytgidfnmblcjoiaa
