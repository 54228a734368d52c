/- The example at the head of all statements holds. -/
import Derived.Test.YtklicfagdpjhdaaTake
set_option linter.unusedVariables false
namespace Go.Proofs.Ytklicfagdpjhdaa
open Go.RowKit Go.Proofs.YtklicfagdpjhdaaW.PrintWords

def zeros (n : Nat) : List Int := List.replicate n 0

theorem made_bytes (n : Nat) : (madeCells #[Value.int .u8 0] n).toList = byteCells (zeros n) := by
  rw [toList_madeCells_one]
  simp [byteCells, zeros]

set_option maxHeartbeats 400000 in
theorem raw_at (n : Nat) (hn : n ≤ 65536) (w : World) :
    Calls Try.prog 13 #[.int .i64 n] w fun e w' => ∃ g, e = .returned (.agg #[.slice (some ⟨g, 0, none⟩) n n, .int .u64 0, .int .u32 0, .int .u32 0]) ∧
      (∀ j u, (byteCells (zeros n))[j]? = some u → w'.cell? ((⟨g, 0, none⟩ : Addr).add j) = some u) ∧ Turns nobody w w' := by
  obtain ⟨i0, hi, hz0, hz1, hz2⟩ := info_parts Try.info5
  have hmk : ∀ W : World, (Instr.makeSlice 22 (.int .i64 (n : Int)) (.int .i64 (n : Int))).run Try.prog W = .ok (.slice (some ⟨W.heap.size, 0, none⟩) n n) (W.alloc (.cells (madeCells #[.int .u8 0] n) 5)) := by
    intro W
    have h := run_make (P := Try.prog) W 22 5 i0 (.int .u8 0) Try.underlying22 hi hz0 .i64 .i64 n n (by omega) (Int.le_refl _) (by rw [hz2]; omega) (by omega)
    rw [hz1] at h
    simpa [Value.cells] using h
  have hb := made_bytes n
  generalize madeCells #[Value.int .u8 0] n = M at hmk hb
  replace hb := hide hb
  go_enter Try.func13, Try.ntmps13
  go_wp2
  go_returns
  refine ⟨w.heap.size + 1, rfl, fun j u hj => ?_, (by repeat' (first | exact Turns.refl _ _ | assumption | exact Or.inl rfl | exact Or.inr (Nat.le_refl _) | apply Turns.alloc | apply Turns.drew | apply Turns.drewN | apply Turns.setCell | (apply Or.inr; simp; done) | (apply Or.inr; simp; omega) | exact fun _ hh => False.elim hh | exact fun _ hh => Or.inl hh | (intro i hi; right; (try simp only at hi); omega) | (intro i hi; right; simp at hi; omega) | refine Turns.step ?_ (by assumption) ?_))⟩
  have B : Blk ((w.alloc (.cells #[.slice (some ⟨w.heap.size + 1, 0, none⟩) n n, .int .u64 0, .int .u32 0, .int .u32 0] 34)).alloc (.cells M 5)) (w.heap.size + 1) M 5 := by
    simpa using Blk.new (w.alloc (.cells #[.slice (some ⟨w.heap.size + 1, 0, none⟩) n n, .int .u64 0, .int .u32 0, .int .u32 0] 34)) M 5
  exact World.news_of_block (fr := (0, 0)) B j u (by rw [hb.out]; exact hj)

theorem zeros_length (n : Nat) : (zeros n).length = n := by simp [zeros]
def zf (n : Nat) : Fr := ⟨zeros n, 0, 0, 0⟩
theorem total_snoc_zf (fs : List Fr) (n : Nat) : total (fs ++ [zf n]) = total fs + n := by rw [total_snoc]; simp [zf, zeros]

theorem put_raw {w : World} {base fb b : Nat} {v : Value} {room low high : Int} {above : Bool} {fs : List Fr} (h : QAt w base fb b v room low high above fs) (hfb : fb ≤ w.heap.size) (hbase : base ≤ w.heap.size)
    (A : Addr) (n cap : Nat) (h0 : 0 < n) (h1 : total fs + n ≤ room) (hc : ∀ j u, (byteCells (zeros n))[j]? = some u → w.cell? (A.add j) = some u) :
    Calls Try.prog 11 #[.pointer (some ⟨b, 0, none⟩), .agg #[.slice (some A) n cap, .int .u64 0, .int .u32 0, .int .u32 0]] w fun e w' => e = .returned (.int .i64 0) ∧
      (∃ v', QAt w' base fb b v' room low high above (fs ++ [zf n]) ∧ (v'.ownBlock = v.ownBlock ∨ ∃ g, v'.ownBlock = some g ∧ w.heap.size ≤ g)) ∧ Turns (fun k => k = b ∨ v.ownBlock = some k) w w' := by
  have hh := put_ok h hfb hbase A cap (zf n) (by simp only [zf, zeros_length]; exact h0) (by simp only [zf, zeros_length]; exact h1) hc
  simp only [zf, zeros_length] at hh ⊢
  exact hh

theorem QAt.own {w : World} {base fb b : Nat} {v : Value} {room low high : Int} {above : Bool} {fs : List Fr} (h : QAt w base fb b v room low high above fs) : base ≤ b ∧ ∀ g, v.ownBlock = some g → base ≤ g := by
  obtain ⟨xs, r1, _⟩ := h.row
  exact ⟨h.bb, fun g hg => (q_typed r1 g hg).1⟩
/-- What a queue that was made behind w does leaves w. -/
theorem QAt.step {w w1 w2 : World} {fb b : Nat} {v : Value} {room low high : Int} {above : Bool} {fs : List Fr} (h : QAt w1 w.heap.size fb b v room low high above fs) (k : Turns nobody w w1)
    {S : Nat → Prop} (k2 : Turns S w1 w2) (hs : ∀ i, S i → i = b ∨ v.ownBlock = some i) : Turns nobody w w2 :=
  Turns.step k k2 fun i hi => .inr (by rcases hs i hi with e | e; exact e ▸ h.own.1; exact h.own.2 i e)

set_option maxHeartbeats 1000000 in
theorem shown_at (w : World) : Calls Try.prog 9 #[] w fun e w' => e = .returned (.bool true) ∧ Turns nobody w w' := by
  go_enter Try.func9, Try.ntmps9
  go_wp2_with fail
  refine (new_ok 10 2 6 _ w.heap.size w.heap.size (Nat.le_refl _) (by omega) (by omega) (by omega) (by omega)).mono ?_
  rintro e w1 ⟨rfl, h1, k1⟩
  go_wp2_with fail
  refine (raw_at 7 (by omega) _).mono ?_
  rintro e w2 ⟨g, rfl, hc, k2⟩
  replace h1 := h1.still k2
  replace k2 := k1.trans k2
  replace hc := hide hc
  go_wp2_with fail
  refine (put_raw h1 k2.size k2.size _ 7 _ (by omega) (by rw [total_nil]; omega) hc.out).mono ?_
  rintro e w3 ⟨rfl, ⟨v1, h2, _⟩, k3⟩
  replace k3 := h1.step k2 k3 (fun i hi => hi)
  have t2 : total ([] ++ [zf 7]) = 7 := by rw [total_snoc_zf, total_nil]; rfl
  go_wp2_with fail
  refine (mark_high h2 (by omega) (by omega)).mono ?_
  rintro e w4 ⟨rfl, h3, k4⟩
  replace k4 := h2.step k3 k4 (fun i hi => .inl hi)
  go_wp2_with fail
  refine (mark_none h3 (.inr (.inr ⟨by omega, rfl, by omega⟩))).mono ?_
  rintro e w5 ⟨rfl, k5⟩
  replace h3 := h3.still k5
  replace k5 := k4.trans k5
  go_wp2_with fail
  refine (raw_at 4 (by omega) _).mono ?_
  rintro e w6 ⟨g6, rfl, -, k6⟩
  replace h3 := h3.still k6
  replace k6 := k5.trans k6
  go_wp2_with fail
  refine (put_full h3 _ 4 _ _ _ _ (by omega) (by omega) (by omega)).mono ?_
  rintro e w7 ⟨rfl, k7⟩
  replace h3 := h3.still k7
  replace k7 := k6.trans k7
  go_wp2_with fail
  refine (take_some (f := zf 7) (fs := []) h3).mono ?_
  rintro e w8 ⟨X, k, rfl, -, ⟨v2, h4, -⟩, k8⟩
  replace k8 := h3.step k7 k8 (fun i hi => .inl hi)
  have h5 := h4.still ((Turns.refl nobody _).alloc (.cells #[.slice X (zf 7).bs.length k, .int .u64 (zf 7).s, .int .u32 (zf 7).n, .int .u32 (zf 7).u] 34))
  have l7 : (zf 7).bs.length = 7 := by simp [zf, zeros]
  go_wp2_with fail
  refine (mark_low h5 (by rw [total_nil]; omega) (by omega)).mono ?_
  rintro e w9 ⟨rfl, h6, k9⟩
  go_wp2_with fail
  go_returns
  exact ⟨rfl, Turns.step (k8.alloc _) k9 (fun i hi => .inr (by have : i = w.heap.size := hi; omega))⟩

end Go.Proofs.Ytklicfagdpjhdaa
