/- A queue in memory, and what its functions do with it. -/
import Derived.Test.YtklicfagdpjhdaaBytes
import Derived.Test.YtklicfagdpjhdaaRows
import Derived.Deep.RegionLaw
import Derived.WalkSpells
import Derived.WalkLawsBesides
set_option linter.unusedVariables false
namespace Go.Proofs.Ytklicfagdpjhdaa
open Go.RowKit Go.Proofs.YtklicfagdpjhdaaW.PrintWords

/-- A frame: its bytes, its stamp. -/
structure Fr where
  bs : List Int
  s : Int
  n : Int
  u : Int

def stampCells (v : Value) (f : Fr) : List Value := [v, .int .u64 f.s, .int .u32 f.n, .int .u32 f.u]

/-- The frames fs lie in the cells xs; their bytes in rows of their own, from block fb on. -/
def Frames (w : World) (fb : Nat) (fs : List Fr) (xs : List Value) : Prop :=
  ∀ i f, fs[i]? = some f → ∃ v, (xs.drop (i * 4)).take 4 = stampCells v f ∧ QRow w fb 5 1 v f.bs.length (byteCells f.bs)

def total (fs : List Fr) : Int := (fs.map fun f => (f.bs.length : Int)).sum

/-- A queue at block b: what waits lies in the row v. -/
structure QAt (w : World) (base fb b : Nat) (v : Value) (room low high : Int) (above : Bool) (fs : List Fr) : Prop where
  blk : Blk w b #[v, .int .i64 room, .int .i64 low, .int .i64 high, .int .i64 (total fs), .bool above] 65
  bb : base ≤ b
  row : ∃ xs, QRow w base 34 4 v fs.length xs ∧ Frames w fb fs xs
  pos : ∀ f ∈ fs, 0 < f.bs.length
  fits : total fs ≤ room
  most : room ≤ 65536

theorem Try.info5 : (Try.prog.info? 5).map (fun i => (i.zero, i.size, i.bytes)) = some (some (.int .u8 0), 1, 1) := by kernel_rfl

theorem total_nil : total [] = 0 := rfl
theorem total_cons (f : Fr) (fs : List Fr) : total (f :: fs) = f.bs.length + total fs := by simp [total]
theorem total_snoc (fs : List Fr) (f : Fr) : total (fs ++ [f]) = total fs + f.bs.length := by simp [total]
theorem total_len : ∀ (fs : List Fr), (∀ f ∈ fs, 0 < f.bs.length) → (fs.length : Int) ≤ total fs
  | [], _ => by simp [total]
  | f :: fs, h => by
    have h1 := total_len fs (fun g hg => h g (List.mem_cons_of_mem _ hg))
    have h2 := h f List.mem_cons_self
    rw [total_cons]
    simp only [List.length_cons]
    omega
theorem total_nonneg (fs : List Fr) : 0 ≤ total fs := by
  induction fs with
  | nil => simp [total]
  | cons f fs ih => rw [total_cons]; omega

theorem Frames.turns {w w' : World} {fb : Nat} {fs : List Fr} {xs : List Value} {S : Nat → Prop} (h : Frames w fb fs xs) (k : Turns S w w') (hn : ∀ g cs, w.heap[g]? = some (.cells cs 5 (0, 0)) → fb ≤ g → ¬ S g) : Frames w' fb fs xs := by
  intro i f hf
  obtain ⟨v, h1, h2⟩ := h i f hf
  refine ⟨v, h1, qrow_turns h2 k fun g hg => ?_⟩
  obtain ⟨hb, cells, hc⟩ := q_typed h2 g hg
  exact hn g cells hc hb

theorem Frames.snoc {w : World} {fb : Nat} {fs : List Fr} {xs : List Value} (h : Frames w fb fs xs) (hl : xs.length = fs.length * 4) (f : Fr) (v : Value) (hv : QRow w fb 5 1 v f.bs.length (byteCells f.bs)) :
    Frames w fb (fs ++ [f]) (xs ++ stampCells v f) := by
  intro i f' hf
  rcases Nat.lt_or_ge i fs.length with hi | hi
  · rw [List.getElem?_append_left hi] at hf
    obtain ⟨v', h1, h2⟩ := h i f' hf
    refine ⟨v', ?_, h2⟩
    rw [List.drop_append_of_le_length (by omega), List.take_append_of_le_length (by rw [List.length_drop]; omega)]
    exact h1
  · rw [List.getElem?_append_right hi] at hf
    have hi0 : i - fs.length = 0 := by
      have := (List.getElem?_eq_some_iff.1 hf).1
      simp at this
      omega
    rw [hi0] at hf
    simp at hf
    subst hf
    refine ⟨v, ?_, hv⟩
    rw [show i * 4 = xs.length from by omega]
    simp [stampCells]

theorem Frames.tail {w : World} {fb : Nat} {f : Fr} {fs : List Fr} {xs : List Value} (h : Frames w fb (f :: fs) xs) : Frames w fb fs (xs.drop 4) := by
  intro i f' hf
  obtain ⟨v, h1, h2⟩ := h (i + 1) f' (by simpa using hf)
  refine ⟨v, ?_, h2⟩
  rw [List.drop_drop, show 4 + i * 4 = (i + 1) * 4 from by omega]
  exact h1

theorem QAt.turns {w w' : World} {base fb b : Nat} {v : Value} {room low high : Int} {above : Bool} {fs : List Fr} {S : Nat → Prop} (h : QAt w base fb b v room low high above fs) (k : Turns S w w')
    (hb : ¬ S b) (hv : ∀ g, v.ownBlock = some g → ¬ S g) (hn : ∀ g cs, w.heap[g]? = some (.cells cs 5 (0, 0)) → fb ≤ g → ¬ S g) : QAt w' base fb b v room low high above fs := by
  obtain ⟨h1, h2, ⟨xs, h3, h4⟩, h5, h6, h7⟩ := h
  exact ⟨h1.turns k hb, h2, ⟨xs, qrow_turns h3 k hv, h4.turns k hn⟩, h5, h6, h7⟩
theorem QAt.still {w w' : World} {base fb b : Nat} {v : Value} {room low high : Int} {above : Bool} {fs : List Fr} (h : QAt w base fb b v room low high above fs) (k : Turns nobody w w') : QAt w' base fb b v room low high above fs :=
  h.turns k (fun hh => hh.elim) (fun _ _ hh => hh.elim) (fun _ _ _ _ hh => hh.elim)

/-- The queue's cells. -/
theorem QAt.cells {w : World} {base fb b : Nat} {v : Value} {room low high : Int} {above : Bool} {fs : List Fr} (h : QAt w base fb b v room low high above fs) : b < w.heap.size ∧
    w.cell? ⟨b, 0, none⟩ = some v ∧ w.cell? ⟨b, 1, none⟩ = some (.int .i64 room) ∧ w.cell? ⟨b, 2, none⟩ = some (.int .i64 low) ∧ w.cell? ⟨b, 3, none⟩ = some (.int .i64 high) ∧
    w.cell? ⟨b, 4, none⟩ = some (.int .i64 (total fs)) ∧ w.cell? ⟨b, 5, none⟩ = some (.bool above) ∧ (∀ j, w.frozen? ⟨b, j, none⟩ = false) :=
  ⟨h.blk.lt, h.blk.cell 0, h.blk.cell 1, h.blk.cell 2, h.blk.cell 3, h.blk.cell 4, h.blk.cell 5, h.blk.frozen⟩

set_option maxHeartbeats 400000 in
theorem new_ok (room low high : Int) (w : World) (base fb : Nat) (hb : base ≤ w.heap.size) (h0 : 0 ≤ low) (h1 : low ≤ high) (h2 : high ≤ room) (h3 : room ≤ 65536) :
    Calls Try.prog 10 #[.int .i64 room, .int .i64 low, .int .i64 high] w fun e w' => e = .returned (.tuple #[.pointer (some ⟨w.heap.size, 0, none⟩), .int .i64 0]) ∧
      QAt w' base fb w.heap.size (.slice none 0 0) room low high false [] ∧ Turns nobody w w' := by
  go_enter Try.func10, Try.ntmps10
  go_wp2
  go_ret2
  exact ⟨rfl, ⟨Blk.new _ _ _, hb, ⟨[], q_of_own (World.ownsRow_nil _ _ _ _), fun i f hf => by simp at hf⟩, by simp, by rw [total_nil]; omega, h3⟩, (by repeat' (first | exact Turns.refl _ _ | assumption | exact Or.inl rfl | exact Or.inr (Nat.le_refl _) | apply Turns.alloc | apply Turns.drew | apply Turns.drewN | apply Turns.setCell | (apply Or.inr; simp; done) | (apply Or.inr; simp; omega) | exact fun _ hh => False.elim hh | exact fun _ hh => Or.inl hh | (intro i hi; right; (try simp only at hi); omega) | (intro i hi; right; simp at hi; omega) | refine Turns.step ?_ (by assumption) ?_))⟩

set_option maxHeartbeats 400000 in
theorem new_bad (room low high : Int) (w : World) (h : low < 0 ∨ high < low ∨ room < high ∨ 65536 < room) :
    Calls Try.prog 10 #[.int .i64 room, .int .i64 low, .int .i64 high] w fun e w' => e = .returned (.tuple #[.pointer none, .int .i64 1]) ∧ Turns nobody w w' := by
  go_enter Try.func10, Try.ntmps10
  go_wp2
  all_goals go_ret2
  all_goals exact ⟨rfl, (by repeat' (first | exact Turns.refl _ _ | assumption | exact Or.inl rfl | exact Or.inr (Nat.le_refl _) | apply Turns.alloc | apply Turns.drew | apply Turns.drewN | apply Turns.setCell | (apply Or.inr; simp; done) | (apply Or.inr; simp; omega) | exact fun _ hh => False.elim hh | exact fun _ hh => Or.inl hh | (intro i hi; right; (try simp only at hi); omega) | (intro i hi; right; simp at hi; omega) | refine Turns.step ?_ (by assumption) ?_))⟩

set_option maxHeartbeats 400000 in
theorem bytes_at {w : World} {base fb b : Nat} {v : Value} {room low high : Int} {above : Bool} {fs : List Fr} (h : QAt w base fb b v room low high above fs) :
    Calls Try.prog 15 #[.pointer (some ⟨b, 0, none⟩)] w fun e w' => e = .returned (.int .i64 (total fs)) ∧ Turns nobody w w' := by
  obtain ⟨hlt, c0, c1, c2, c3, c4, c5, f⟩ := h.cells
  go_enter Try.func15, Try.ntmps15
  go_wp2
  go_returns
  exact ⟨rfl, (by repeat' (first | exact Turns.refl _ _ | assumption | exact Or.inl rfl | exact Or.inr (Nat.le_refl _) | apply Turns.alloc | apply Turns.drew | apply Turns.drewN | apply Turns.setCell | (apply Or.inr; simp; done) | (apply Or.inr; simp; omega) | exact fun _ hh => False.elim hh | exact fun _ hh => Or.inl hh | (intro i hi; right; (try simp only at hi); omega) | (intro i hi; right; simp at hi; omega) | refine Turns.step ?_ (by assumption) ?_))⟩

theorem QAt.slice {w : World} {base fb b : Nat} {v : Value} {room low high : Int} {above : Bool} {fs : List Fr} (h : QAt w base fb b v room low high above fs) : ∃ A c, v = .slice A fs.length c := by
  obtain ⟨xs, h1, _⟩ := h.row
  obtain ⟨A, c, h2, _⟩ := q_slice h1
  exact ⟨A, c, h2⟩

set_option maxHeartbeats 400000 in
theorem len_at {w : World} {base fb b : Nat} {v : Value} {room low high : Int} {above : Bool} {fs : List Fr} (h : QAt w base fb b v room low high above fs) :
    Calls Try.prog 16 #[.pointer (some ⟨b, 0, none⟩)] w fun e w' => e = .returned (.int .i64 fs.length) ∧ Turns nobody w w' := by
  obtain ⟨A, c, rfl⟩ := h.slice
  obtain ⟨hlt, c0, c1, c2, c3, c4, c5, f⟩ := h.cells
  go_enter Try.func16, Try.ntmps16
  go_wp2
  go_returns
  exact ⟨rfl, (by repeat' (first | exact Turns.refl _ _ | assumption | exact Or.inl rfl | exact Or.inr (Nat.le_refl _) | apply Turns.alloc | apply Turns.drew | apply Turns.drewN | apply Turns.setCell | (apply Or.inr; simp; done) | (apply Or.inr; simp; omega) | exact fun _ hh => False.elim hh | exact fun _ hh => Or.inl hh | (intro i hi; right; (try simp only at hi); omega) | (intro i hi; right; simp at hi; omega) | refine Turns.step ?_ (by assumption) ?_))⟩

theorem QAt.setAbove {w : World} {base fb b : Nat} {v : Value} {room low high : Int} {above : Bool} {fs : List Fr} (h : QAt w base fb b v room low high above fs) (c : Bool) :
    QAt (w.setCell ⟨b, 5, none⟩ (.bool c)) base fb b v room low high c fs := by
  obtain ⟨h1, h2, ⟨xs, h3, h4⟩, h5, h6, h7⟩ := h
  have k : Turns (· = b) w (w.setCell ⟨b, 5, none⟩ (.bool c)) := (by repeat' (first | exact Turns.refl _ _ | assumption | exact Or.inl rfl | exact Or.inr (Nat.le_refl _) | apply Turns.alloc | apply Turns.drew | apply Turns.drewN | apply Turns.setCell | (apply Or.inr; simp; done) | (apply Or.inr; simp; omega) | exact fun _ hh => False.elim hh | exact fun _ hh => Or.inl hh | (intro i hi; right; (try simp only at hi); omega) | (intro i hi; right; simp at hi; omega) | refine Turns.step ?_ (by assumption) ?_))
  refine ⟨by simpa using h1.set 5 (.bool c), h2, ⟨xs, qrow_turns h3 k ?_, h4.turns k ?_⟩, h5, h6, h7⟩
  · intro g hg e
    obtain ⟨_, cells, hc⟩ := q_typed h3 g hg
    exact ne_of_types hc h1 (by decide) e
  · intro g cs hc _ e
    exact ne_of_types hc h1 (by decide) e

set_option maxHeartbeats 400000 in
theorem mark_high {w : World} {base fb b : Nat} {v : Value} {room low high : Int} {fs : List Fr} (h : QAt w base fb b v room low high false fs) (h1 : high ≤ total fs) (h0 : 0 < high) :
    Calls Try.prog 14 #[.pointer (some ⟨b, 0, none⟩)] w fun e w' => e = .returned (.int .i64 1) ∧ QAt w' base fb b v room low high true fs ∧ Turns (· = b) w w' := by
  obtain ⟨hlt, c0, c1, c2, c3, c4, c5, f⟩ := h.cells
  have e0 : (high == 0) = false := by simp; omega
  go_enter Try.func14, Try.ntmps14
  go_wp2
  go_quiet (fail)
  go_wp2
  go_returns
  exact ⟨rfl, QAt.setAbove (h.still ((Turns.refl _ _).drewN nq)) true, (by repeat' (first | exact Turns.refl _ _ | assumption | exact Or.inl rfl | exact Or.inr (Nat.le_refl _) | apply Turns.alloc | apply Turns.drew | apply Turns.drewN | apply Turns.setCell | (apply Or.inr; simp; done) | (apply Or.inr; simp; omega) | exact fun _ hh => False.elim hh | exact fun _ hh => Or.inl hh | (intro i hi; right; (try simp only at hi); omega) | (intro i hi; right; simp at hi; omega) | refine Turns.step ?_ (by assumption) ?_))⟩

set_option maxHeartbeats 400000 in
theorem mark_low {w : World} {base fb b : Nat} {v : Value} {room low high : Int} {fs : List Fr} (h : QAt w base fb b v room low high true fs) (h1 : total fs ≤ low) (h0 : 0 < high) :
    Calls Try.prog 14 #[.pointer (some ⟨b, 0, none⟩)] w fun e w' => e = .returned (.int .i64 2) ∧ QAt w' base fb b v room low high false fs ∧ Turns (· = b) w w' := by
  obtain ⟨hlt, c0, c1, c2, c3, c4, c5, f⟩ := h.cells
  have e0 : (high == 0) = false := by simp; omega
  go_enter Try.func14, Try.ntmps14
  go_wp2
  go_quiet (fail)
  go_wp2
  go_quiet (fail)
  go_wp2
  go_returns
  exact ⟨rfl, QAt.setAbove (h.still ((Turns.refl _ _).drewN _)) false, (by repeat' (first | exact Turns.refl _ _ | assumption | exact Or.inl rfl | exact Or.inr (Nat.le_refl _) | apply Turns.alloc | apply Turns.drew | apply Turns.drewN | apply Turns.setCell | (apply Or.inr; simp; done) | (apply Or.inr; simp; omega) | exact fun _ hh => False.elim hh | exact fun _ hh => Or.inl hh | (intro i hi; right; (try simp only at hi); omega) | (intro i hi; right; simp at hi; omega) | refine Turns.step ?_ (by assumption) ?_))⟩

set_option maxHeartbeats 400000 in
theorem mark_none {w : World} {base fb b : Nat} {v : Value} {room low high : Int} {above : Bool} {fs : List Fr} (h : QAt w base fb b v room low high above fs)
    (h1 : high = 0 ∨ (0 < high ∧ above = false ∧ total fs < high) ∨ (0 < high ∧ above = true ∧ low < total fs)) :
    Calls Try.prog 14 #[.pointer (some ⟨b, 0, none⟩)] w fun e w' => e = .returned (.int .i64 0) ∧ Turns nobody w w' := by
  obtain ⟨hlt, c0, c1, c2, c3, c4, c5, f⟩ := h.cells
  rcases h1 with rfl | ⟨h0, rfl, h1⟩ | ⟨h0, rfl, h1⟩
  · go_enter Try.func14, Try.ntmps14
    go_wp2
    go_returns
    exact ⟨rfl, (by repeat' (first | exact Turns.refl _ _ | assumption | exact Or.inl rfl | exact Or.inr (Nat.le_refl _) | apply Turns.alloc | apply Turns.drew | apply Turns.drewN | apply Turns.setCell | (apply Or.inr; simp; done) | (apply Or.inr; simp; omega) | exact fun _ hh => False.elim hh | exact fun _ hh => Or.inl hh | (intro i hi; right; (try simp only at hi); omega) | (intro i hi; right; simp at hi; omega) | refine Turns.step ?_ (by assumption) ?_))⟩
  · have e0 : (high == 0) = false := by simp; omega
    go_enter Try.func14, Try.ntmps14
    go_wp2
    go_quiet (fail)
    go_wp2
    go_quiet (fail)
    go_wp2
    go_returns
    exact ⟨rfl, (by repeat' (first | exact Turns.refl _ _ | assumption | exact Or.inl rfl | exact Or.inr (Nat.le_refl _) | apply Turns.alloc | apply Turns.drew | apply Turns.drewN | apply Turns.setCell | (apply Or.inr; simp; done) | (apply Or.inr; simp; omega) | exact fun _ hh => False.elim hh | exact fun _ hh => Or.inl hh | (intro i hi; right; (try simp only at hi); omega) | (intro i hi; right; simp at hi; omega) | refine Turns.step ?_ (by assumption) ?_))⟩
  · have e0 : (high == 0) = false := by simp; omega
    go_enter Try.func14, Try.ntmps14
    go_wp2
    go_quiet (fail)
    go_wp2
    go_quiet (fail)
    go_wp2
    go_returns
    exact ⟨rfl, (by repeat' (first | exact Turns.refl _ _ | assumption | exact Or.inl rfl | exact Or.inr (Nat.le_refl _) | apply Turns.alloc | apply Turns.drew | apply Turns.drewN | apply Turns.setCell | (apply Or.inr; simp; done) | (apply Or.inr; simp; omega) | exact fun _ hh => False.elim hh | exact fun _ hh => Or.inl hh | (intro i hi; right; (try simp only at hi); omega) | (intro i hi; right; simp at hi; omega) | refine Turns.step ?_ (by assumption) ?_))⟩

set_option maxHeartbeats 400000 in
theorem clear_at {w : World} {base fb b : Nat} {v : Value} {room low high : Int} {above : Bool} {fs : List Fr} (h : QAt w base fb b v room low high above fs) (h0 : 0 ≤ room) :
    Calls Try.prog 21 #[.pointer (some ⟨b, 0, none⟩)] w fun e w' => e = .returned (.tuple #[]) ∧ QAt w' base fb b (.slice none 0 0) room low high false [] ∧ Turns (· = b) w w' := by
  obtain ⟨hlt, c0, c1, c2, c3, c4, c5, f⟩ := h.cells
  obtain ⟨A, c, rfl⟩ := h.slice
  go_enter Try.func21, Try.ntmps21
  go_wp2
  go_returns
  have B := ((h.blk.set 0 (.slice none 0 0)).set 4 (.int .i64 0)).set 5 (.bool false)
  refine ⟨rfl, ⟨by simpa [total] using B, h.bb, ⟨[], q_of_own (World.ownsRow_nil _ _ _ _), fun i f hf => by simp at hf⟩, by simp, by rw [total_nil]; exact h0, h.most⟩, (by repeat' (first | exact Turns.refl _ _ | assumption | exact Or.inl rfl | exact Or.inr (Nat.le_refl _) | apply Turns.alloc | apply Turns.drew | apply Turns.drewN | apply Turns.setCell | (apply Or.inr; simp; done) | (apply Or.inr; simp; omega) | exact fun _ hh => False.elim hh | exact fun _ hh => Or.inl hh | (intro i hi; right; (try simp only at hi); omega) | (intro i hi; right; simp at hi; omega) | refine Turns.step ?_ (by assumption) ?_))⟩

set_option maxHeartbeats 400000 in
theorem put_arg (b : Option Addr) (A : Option Addr) (cap : Nat) (s n u : Int) (w : World) :
    Calls Try.prog 11 #[.pointer b, .agg #[.slice A 0 cap, .int .u64 s, .int .u32 n, .int .u32 u]] w fun e w' => e = .returned (.int .i64 1) ∧ Turns nobody w w' := by
  go_enter Try.func11, Try.ntmps11
  go_wp2
  go_returns
  exact ⟨rfl, (by repeat' (first | exact Turns.refl _ _ | assumption | exact Or.inl rfl | exact Or.inr (Nat.le_refl _) | apply Turns.alloc | apply Turns.drew | apply Turns.drewN | apply Turns.setCell | (apply Or.inr; simp; done) | (apply Or.inr; simp; omega) | exact fun _ hh => False.elim hh | exact fun _ hh => Or.inl hh | (intro i hi; right; (try simp only at hi); omega) | (intro i hi; right; simp at hi; omega) | refine Turns.step ?_ (by assumption) ?_))⟩

set_option maxHeartbeats 400000 in
theorem put_nil (A : Option Addr) (len cap : Nat) (s n u : Int) (w : World) (h : 0 < len) :
    Calls Try.prog 11 #[.pointer none, .agg #[.slice A len cap, .int .u64 s, .int .u32 n, .int .u32 u]] w fun e w' => e = .returned (.int .i64 3) ∧ Turns nobody w w' := by
  have e0 : ((len : Int) == 0) = false := by simp; omega
  go_enter Try.func11, Try.ntmps11
  go_wp2
  go_quiet (fail)
  go_wp2
  go_returns
  exact ⟨rfl, (by repeat' (first | exact Turns.refl _ _ | assumption | exact Or.inl rfl | exact Or.inr (Nat.le_refl _) | apply Turns.alloc | apply Turns.drew | apply Turns.drewN | apply Turns.setCell | (apply Or.inr; simp; done) | (apply Or.inr; simp; omega) | exact fun _ hh => False.elim hh | exact fun _ hh => Or.inl hh | (intro i hi; right; (try simp only at hi); omega) | (intro i hi; right; simp at hi; omega) | refine Turns.step ?_ (by assumption) ?_))⟩

set_option maxHeartbeats 400000 in
theorem put_full {w : World} {base fb b : Nat} {v : Value} {room low high : Int} {above : Bool} {fs : List Fr} (h : QAt w base fb b v room low high above fs)
    (A : Option Addr) (len cap : Nat) (s n u : Int) (h0 : 0 < len) (hl : len ≤ 9223372036854775807) (h1 : room < total fs + len) :
    Calls Try.prog 11 #[.pointer (some ⟨b, 0, none⟩), .agg #[.slice A len cap, .int .u64 s, .int .u32 n, .int .u32 u]] w fun e w' => e = .returned (.int .i64 3) ∧ Turns nobody w w' := by
  obtain ⟨hlt, c0, c1, c2, c3, c4, c5, f⟩ := h.cells
  have e0 : ((len : Int) == 0) = false := by simp; omega
  have h2 := h.most
  have h3 := h.fits
  have h4 := total_nonneg fs
  have e1 : room - total fs < (len : Int) := by omega
  go_enter Try.func11, Try.ntmps11
  go_wp2
  go_quiet (fail)
  go_wp2
  go_returns
  exact ⟨rfl, (by repeat' (first | exact Turns.refl _ _ | assumption | exact Or.inl rfl | exact Or.inr (Nat.le_refl _) | apply Turns.alloc | apply Turns.drew | apply Turns.drewN | apply Turns.setCell | (apply Or.inr; simp; done) | (apply Or.inr; simp; omega) | exact fun _ hh => False.elim hh | exact fun _ hh => Or.inl hh | (intro i hi; right; (try simp only at hi); omega) | (intro i hi; right; simp at hi; omega) | refine Turns.step ?_ (by assumption) ?_))⟩

end Go.Proofs.Ytklicfagdpjhdaa
