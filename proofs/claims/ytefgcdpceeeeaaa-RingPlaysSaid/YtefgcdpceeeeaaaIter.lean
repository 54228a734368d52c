/- The places that a ring tells, one by one: 'round', and its function. -/
import Derived.Test.YtefgcdpceeeeaaaState
import Derived.Test.YtefgcdpceeeeaaaTailIn
import Derived.RangeFuncNested
import Derived.RangeFuncBound
import Derived.RangeFuncBox
import Derived.RangeFuncCalls
import Derived.RangeFuncLeaves
import Derived.RangeFuncFrom
import Derived.Shelf.Abstract
import Derived.Shelf.RegionOpen
import Derived.WalkKit
import Derived.OwnWalkIn
import Derived.TacticsInMore
import Derived.LoopNIn
import Derived.LoopIn
set_option linter.unusedVariables false
namespace Go.Proofs.Ytefgcdpceeeeaaa
open Go.RowKit Go.Shelf
attribute [local go_sem] Oper.semAt_some

/-- The k-th place that is told. -/
def placeOf (s f i : Int) (k : Nat) : Int := (f + i + k) % s
def upto (s f i : Int) (k : Nat) : List Int := (List.range k).map (placeOf s f i)
theorem upto_succ (s f i : Int) (k : Nat) : upto s f i (k + 1) = upto s f i k ++ [placeOf s f i k] := by simp [upto, List.range_succ]
theorem upto_length (s f i : Int) (k : Nat) : (upto s f i k).length = k := by simp [upto]

/-- The blocks of S lie as they lay. -/
structure Keeps (S : Nat → Prop) (A B : World) : Prop where
  size : A.heap.size ≤ B.heap.size
  same : ∀ g, S g → g < A.heap.size → B.heap[g]? = A.heap[g]?
theorem Keeps.refl (S : Nat → Prop) (A : World) : Keeps S A A := ⟨Nat.le_refl _, fun _ _ _ => rfl⟩
theorem Keeps.trans {S : Nat → Prop} {A B C : World} (h : Keeps S A B) (k : Keeps S B C) : Keeps S A C :=
  ⟨Nat.le_trans h.size k.size, fun g hg hl => (k.same g hg (Nat.lt_of_lt_of_le hl h.size)).trans (h.same g hg hl)⟩
theorem Keeps.drew {S : Nat → Prop} {A B : World} (h : Keeps S A B) : Keeps S A B.drew := ⟨h.size, h.same⟩
theorem Keeps.cell {S : Nat → Prop} {A B : World} (h : Keeps S A B) {g j : Nat} {v : Value} (hg : S g) (hc : A.cell? ⟨g, j, none⟩ = some v) : B.cell? ⟨g, j, none⟩ = some v := by
  rw [← hc]
  exact World.cell?_of_block (h.same g hg (block_lt_of_cell hc))
theorem Keeps.of_turns {S T : Nat → Prop} {A B : World} (h : Turns T A B) (hs : ∀ g, S g → ¬ T g) : Keeps S A B := ⟨h.size, fun g hg hl => h.block g hl (hs g hg)⟩
theorem Keeps.putObj {S : Nat → Prop} (W : World) (l : Nat) (o' : Obj) (hs : ∀ g, S g → g ≠ l) : Keeps S W (W.putObj l o') :=
  ⟨by simp, fun g hg _ => World.putObj_heap_other (fun e => hs g hg e)⟩

def four (b Bn Br Bi : Nat) : Nat → Prop := fun g => g = b ∨ g = Bn ∨ g = Br ∨ g = Bi

set_option maxRecDepth 100000 in
set_option maxHeartbeats 2000000 in
theorem round1_in (n : Nat) (l Bn Br Bi b m : Nat) (s f i : Int)
    (s0 : 2 ≤ s ∧ s ≤ 64) (f0 : 0 ≤ f ∧ f < s) (i0 : 0 ≤ i ∧ i ≤ 64) (hm : m ≤ 64) (J Jx : List Int → World → Prop)
    (hY : ∀ pre x W, J pre W → pre.length < m → YieldAt Fence.wide (n - 1) Try.prog l #[.int .i64 x] W fun e W' =>
      (e = .returned (.bool true) ∧ J (pre ++ [x]) W' ∧ Keeps (four b Bn Br Bi) W W') ∨ (e = .returned (.bool false) ∧ Jx (pre ++ [x]) W'))
    (hD : ∀ pre W, J pre W → J pre W.drew)
    (W : World) (hcn : W.cell? ⟨Bn, 0, none⟩ = some (.int .i64 m)) (hcr : W.cell? ⟨Br, 0, none⟩ = some (.pointer (some ⟨b, 0, none⟩))) (hci : W.cell? ⟨Bi, 0, none⟩ = some (.int .i64 i))
    (hs : W.cell? ⟨b, 0, none⟩ = some (.int .i64 s)) (hf : W.cell? ⟨b, 1, none⟩ = some (.int .i64 f)) (h0 : J [] W) :
    CallsIn Fence.wide n Try.prog 26 #[.func (.yield l) #[] #[], .pointer (some ⟨Bn, 0, none⟩), .pointer (some ⟨Br, 0, none⟩), .pointer (some ⟨Bi, 0, none⟩)] W fun e W' => (∃ v, e = .returned v) ∧
      ((∃ ys, ys = upto s f i m ∧ J ys W') ∨ (∃ pre, (∃ k, k ≤ m ∧ pre = upto s f i k) ∧ Jx pre W')) := by
  refine callsIn_of_wp Try.func26 rfl trivial ?_ rfl
  simp only [Try.ntmps26, List.size_toArray, List.length_cons, List.length_nil, Nat.reduceAdd, Nat.reduceSub, Array.replicate_succ, Array.replicate_zero, List.push_toArray, List.append_toArray, List.nil_append, List.cons_append]
  gi_wp2
  gi_loopw [7] (fun j wr => ∃ k : Nat, k ≤ m ∧ j = .int .i64 k ∧ J (upto s f i k) wr ∧ Keeps (four b Bn Br Bi) W wr)
    (fun j _ => m - (intOf j).toNat)
  case atStart => exact ⟨0, Nat.zero_le _, rfl, h0, Keeps.refl _ _⟩
  case round =>
    obtain ⟨k, hk, rfl, hJs, hnx⟩ := hrel
    by_cases hlt : k < m
    · obtain ⟨fn, tmps, assign, body, hy, hR⟩ := hY _ (placeOf s f i k) wr.drew (hD _ _ hJs) (by rw [upto_length]; exact hlt)
      have c1 := hnx.cell (.inr (.inl rfl)) hcn
      have c2 := hnx.cell (.inr (.inr (.inl rfl))) hcr
      have c3 := hnx.cell (.inr (.inr (.inr rfl))) hci
      have c4 := hnx.cell (.inl rfl) hs
      have c5 := hnx.cell (.inl rfl) hf
      have hp : Int.tmod (f + i + (k : Int)) s = placeOf s f i k := Int.tmod_eq_emod_of_nonneg (by omega)
      have hs0 : ¬ s = 0 := by omega
      have hw1 : IntKind.i64.wrap (f + i) = f + i := IntWalk.i64_in _ ⟨by omega, by omega⟩
      have hw2 : IntKind.i64.wrap (f + i + (k : Int)) = f + i + k := IntWalk.i64_in _ ⟨by omega, by omega⟩
      gi_wp2
      refine wpIn_region_still_tail 14 (by kernel_rfl) (by kernel_rfl) ?_
      simp only [List.take_succ_cons, List.take_zero, List.drop_succ_cons, List.drop_zero]
      repeat still_step
      refine wpStill_nil ?_
      change wpListIn _ _ _ _ _ _ _ wr.drew
      gi_wp2
      refine ⟨fun hd => (by cases hd), hR.mono ?_⟩
      rintro e W3 (⟨rfl, hJ3, hk3⟩ | ⟨rfl, hJx3⟩)
      · gi_wp2
        go_roundw
        case rel => exact ⟨k + 1, by omega, by simp, by rw [upto_succ]; exact hJ3, (hnx.drew).trans hk3⟩
        case measure => simp [intOf]; omega
      · gi_wp2
        refine bodyPost_ret (results_none rfl _ _ _) rfl ?_
        exact ⟨⟨_, rfl⟩, .inr ⟨_, ⟨k + 1, by omega, (upto_succ _ _ _ _).symm⟩, hJx3⟩⟩
    · obtain rfl : k = m := by omega
      gi_wp2
      go_end0
      exact ⟨⟨_, rfl⟩, .inl ⟨_, rfl, hJs⟩⟩

/-- 'round' hands back a function that tells the places. -/
theorem round_stops (n Bn Br Bi b m : Nat) (s f i : Int) (s0 : 2 ≤ s ∧ s ≤ 64) (f0 : 0 ≤ f ∧ f < s) (i0 : 0 ≤ i ∧ i ≤ 64) (hm : m ≤ 64) (w : World)
    (hcn : w.cell? ⟨Bn, 0, none⟩ = some (.int .i64 m)) (hcr : w.cell? ⟨Br, 0, none⟩ = some (.pointer (some ⟨b, 0, none⟩))) (hci : w.cell? ⟨Bi, 0, none⟩ = some (.int .i64 i))
    (hs : w.cell? ⟨b, 0, none⟩ = some (.int .i64 s)) (hf : w.cell? ⟨b, 1, none⟩ = some (.int .i64 f)) :
    SeqStopsK Fence.wide n Try.prog 26 #[.pointer (some ⟨Bn, 0, none⟩), .pointer (some ⟨Br, 0, none⟩), .pointer (some ⟨Bi, 0, none⟩)] (fun x : Int => #[Value.int .i64 x]) (Keeps (four b Bn Br Bi))
      (fun ys => ys = upto s f i m) (fun pre => ∃ k, k ≤ m ∧ pre = upto s f i k) m w := fun l J Jx W hW hJ _ hY h0 =>
  round1_in n l Bn Br Bi b m s f i s0 f0 i0 hm J Jx hY (fun pre W h => hJ pre W W.drew none h ⟨rfl, rfl, rfl, Nat.le_refl _, fun _ _ _ => rfl⟩ (fun r e => by cases e)) W
    ((hW.cell (block_lt_of_cell hcn)).trans hcn) ((hW.cell (block_lt_of_cell hcr)).trans hcr) ((hW.cell (block_lt_of_cell hci)).trans hci) ((hW.cell (block_lt_of_cell hs)).trans hs) ((hW.cell (block_lt_of_cell hf)).trans hf) h0

set_option maxHeartbeats 1000000 in
theorem round_in (n : Nat) (p : Option Addr) (i m : Int) (w : World) :
    Calls Try.prog 25 #[.pointer p, .int .i64 i, .int .i64 m] w fun e w' => e = .returned (.func (.func 26) #[] #[.pointer (some ⟨w.heap.size + 2, 0, none⟩), .pointer (some ⟨w.heap.size, 0, none⟩), .pointer (some ⟨w.heap.size + 1, 0, none⟩)]) ∧
      w' = ((w.alloc (.cells #[.pointer p] 24)).alloc (.cells #[.int .i64 i] 3)).alloc (.cells #[.int .i64 m] 3) := by
  go_enter Try.func25, Try.ntmps25
  go_wp2
  go_ret
  exact ⟨rfl, rfl⟩

end Go.Proofs.Ytefgcdpceeeeaaa
