/- Making registers. -/
import Derived.Test.YtdhifcjfkbidoaaAcc
set_option linter.unusedVariables false
namespace Go.Proofs.Ytdhifcjfkbidoaa
open Go.RowKit Go.Proofs.YtdhifcjfkbidoaaW.PrintWords

/-- A kind: what it begins with, what the bus writes, what it clears. -/
structure Kd where
  r : Int
  p : Int
  c : Int

/-- The kinds ks lie at A. -/
def KindsAt (w : World) (A : Option Addr) (ks : List Kd) : Prop :=
  ∀ i k, ks[i]? = some k → ∃ b o, A = some ⟨b, o, none⟩ ∧ b < w.heap.size ∧ w.cell? ⟨b, o + i * 3, none⟩ = some (.int .u32 k.r) ∧ w.cell? ⟨b, o + i * 3 + 1, none⟩ = some (.int .u32 k.p) ∧ w.cell? ⟨b, o + i * 3 + 2, none⟩ = some (.int .u32 k.c)

theorem KindsAt.still {w w' : World} {A : Option Addr} {ks : List Kd} (h : KindsAt w A ks) (k : Turns nobody w w') : KindsAt w' A ks := by
  intro i x hx
  obtain ⟨b, o, rfl, hb, c0, c1, c2⟩ := h i x hx
  have e := k.none_below
  exact ⟨b, o, rfl, Nat.lt_of_lt_of_le hb k.size, (e.cell (by exact hb)).trans c0, (e.cell (by exact hb)).trans c1, (e.cell (by exact hb)).trans c2⟩

def regOf (k : Kd) : Reg := ⟨k.r, k.p, k.c, k.r⟩
def regCells (ks : List Kd) : List Value := ks.flatMap fun k => [.int .u32 k.r, .int .u32 k.p, .int .u32 k.c, .int .u32 k.r]
theorem regCells_snoc (ks : List Kd) (k : Kd) : regCells (ks ++ [k]) = regCells ks ++ [.int .u32 k.r, .int .u32 k.p, .int .u32 k.c, .int .u32 k.r] := by simp [regCells]
theorem regCells_length (ks : List Kd) : (regCells ks).length = ks.length * 4 := by
  induction ks with
  | nil => rfl
  | cons k ks ih => rw [show regCells (k :: ks) = [.int .u32 k.r, .int .u32 k.p, .int .u32 k.c, .int .u32 k.r] ++ regCells ks from rfl, List.length_append, ih]; simp; omega
theorem regCells_get : ∀ (ks : List Kd) (i : Nat) (k : Kd), ks[i]? = some k → (regCells ks)[i * 4]? = some (.int .u32 k.r) ∧ (regCells ks)[i * 4 + 1]? = some (.int .u32 k.p) ∧ (regCells ks)[i * 4 + 2]? = some (.int .u32 k.c) ∧ (regCells ks)[i * 4 + 3]? = some (.int .u32 k.r)
  | [], i, k, h => by simp at h
  | k0 :: ks, 0, k, h => by
    simp at h
    subst h
    exact ⟨rfl, rfl, rfl, rfl⟩
  | k0 :: ks, i + 1, k, h => by
    have ih := regCells_get ks i k (by simpa using h)
    have e : ∀ j, (regCells (k0 :: ks))[(i + 1) * 4 + j]? = (regCells ks)[i * 4 + j]? := fun j => by
      rw [show regCells (k0 :: ks) = [.int .u32 k0.r, .int .u32 k0.p, .int .u32 k0.c, .int .u32 k0.r] ++ regCells ks from rfl, List.getElem?_append_right (by simp; omega)]
      congr 1
      simp
      omega
    exact ⟨(e 0).trans ih.1, (e 1).trans ih.2.1, (e 2).trans ih.2.2.1, (e 3).trans ih.2.2.2⟩

/-- Registers off a row. -/
theorem fat_of_row {w : World} {base b : Nat} {v : Value} {ks : List Kd} (h1 : Blk w b #[v] 62) (hb : base ≤ b) (h : QRow w base 64 4 v ks.length (regCells ks)) (h0 : 0 < ks.length) (h64 : ks.length ≤ 64) :
    ∃ g o cap, FAt w base b g o cap (ks.map regOf) := by
  rcases h.2 with ⟨h00, _⟩ | ⟨g, off, cap, cur, rfl, hg, hh, hnc, hm, hcs, ht⟩
  · omega
  · refine ⟨g, off * 4, cap, ⟨by rw [List.length_map]; exact h1, ⟨cur, hh, fun i r hr => ?_⟩, hb, hg, by rw [List.length_map]; exact ⟨h0, h64⟩⟩⟩
    rw [List.getElem?_map] at hr
    obtain ⟨k, hk, rfl⟩ := Option.map_eq_some_iff.1 hr
    have hil := (List.getElem?_eq_some_iff.1 hk).1
    have e : ∀ j, j < ks.length * 4 → cur[off * 4 + j]? = (regCells ks)[j]? := fun j hj => by
      rw [← ht, List.getElem?_take_of_lt hj, List.getElem?_drop, Array.getElem?_toList]
    obtain ⟨a0, a1, a2, a3⟩ := regCells_get ks i k hk
    exact ⟨(e _ (by omega)).trans a0, (e (i * 4 + 1) (by omega)).trans a1, (e (i * 4 + 2) (by omega)).trans a2, (e (i * 4 + 3) (by omega)).trans a3⟩

theorem Try.info64 : (Try.prog.info? 64).map (fun i => (i.zero, i.size, i.bytes)) = some (some (.agg #[.int .u32 0, .int .u32 0, .int .u32 0, .int .u32 0]), 4, 16) := by kernel_rfl

theorem FAt.weaken {w : World} {base base' b g o cap : Nat} {rs : List Reg} (h : FAt w base b g o cap rs) (hb : base' ≤ base) : FAt w base' b g o cap rs :=
  ⟨h.blk, h.row, Nat.le_trans hb h.bb, Nat.le_trans hb h.bg, h.few⟩

set_option maxHeartbeats 400000 in
theorem new_len (A : Option Addr) (n cap : Nat) (w : World) (h : n = 0 ∨ 64 < n) : Calls Try.prog 10 #[.slice A n cap] w fun e w' => e = .returned (.tuple #[.pointer none, .int .i64 1]) ∧ Turns nobody w w' := by
  rcases h with rfl | h
  · go_enter Try.func10, Try.ntmps10
    go_wp2_with fail
    go_returns
    exact ⟨rfl, (by repeat' (first | exact Turns.refl _ _ | assumption | exact Or.inl rfl | exact Or.inr (Nat.le_refl _) | apply Turns.alloc | apply Turns.drew | apply Turns.drewN | apply Turns.setCell | (apply Or.inr; simp; done) | (apply Or.inr; simp; omega) | exact fun _ hh => False.elim hh | exact fun _ hh => Or.inl hh | (intro i hi; right; (try simp only at hi); omega) | (intro i hi; right; simp at hi; omega) | refine Turns.step ?_ (by assumption) ?_))⟩
  · have e0 : ((n : Int) == 0) = false := beq_eq_false_iff_ne.2 (by omega)
    have e1 : (64 : Int) < (n : Int) := by omega
    go_enter Try.func10, Try.ntmps10
    go_wp2_with fail
    go_returns
    exact ⟨rfl, (by repeat' (first | exact Turns.refl _ _ | assumption | exact Or.inl rfl | exact Or.inr (Nat.le_refl _) | apply Turns.alloc | apply Turns.drew | apply Turns.drewN | apply Turns.setCell | (apply Or.inr; simp; done) | (apply Or.inr; simp; omega) | exact fun _ hh => False.elim hh | exact fun _ hh => Or.inl hh | (intro i hi; right; (try simp only at hi); omega) | (intro i hi; right; simp at hi; omega) | refine Turns.step ?_ (by assumption) ?_))⟩

def good (k : Kd) : Prop := bits .and .u32 k.p k.c = 0
instance (k : Kd) : Decidable (good k) := by unfold good; exact inferInstance

set_option maxHeartbeats 1000000 in
theorem new_law (A : Option Addr) (cap : Nat) (ks : List Kd) (w : World) (hk : KindsAt w A ks) (h0 : 0 < ks.length) (h64 : ks.length ≤ 64) :
    Calls Try.prog 10 #[.slice A ks.length cap] w fun e w' => Turns nobody w w' ∧ ((e = .returned (.tuple #[.pointer none, .int .i64 1]) ∧ ∃ k ∈ ks, ¬ good k) ∨
      ((∀ k ∈ ks, good k) ∧ ∃ b g o cap', e = .returned (.tuple #[.pointer (some ⟨b, 0, none⟩), .int .i64 0]) ∧ FAt w' w.heap.size b g o cap' (ks.map regOf))) := by
  obtain ⟨i0, hi, hz0, hz1, hz2⟩ := info_parts Try.info64
  have e0 : ((ks.length : Int) == 0) = false := beq_eq_false_iff_ne.2 (by omega)
  have e1 : ¬ (64 : Int) < (ks.length : Int) := by omega
  have hkk : Hid (KindsAt w A ks) := hide hk
  clear hk
  go_enter Try.func10, Try.ntmps10
  go_wp2_with fail
  have B0 := Blk.new w #[.slice none 0 0] 62
  have q0 : QRow (w.alloc (.cells #[.slice none 0 0] 62)) w.heap.size 64 4 (.slice none 0 0) 0 (regCells (ks.take 0)) := q_of_own (World.ownsRow_nil _ _ _ _)
  have k0 : Turns nobody w (w.alloc (.cells #[.slice none 0 0] 62)) := (by repeat' (first | exact Turns.refl _ _ | assumption | exact Or.inl rfl | exact Or.inr (Nat.le_refl _) | apply Turns.alloc | apply Turns.drew | apply Turns.drewN | apply Turns.setCell | (apply Or.inr; simp; done) | (apply Or.inr; simp; omega) | exact fun _ hh => False.elim hh | exact fun _ hh => Or.inl hh | (intro i hi; right; (try simp only at hi); omega) | (intro i hi; right; simp at hi; omega) | refine Turns.step ?_ (by assumption) ?_))
  go_loopw [19] (fun i wr => ∃ (k : Nat) (v : Value), k ≤ ks.length ∧ i = .int .i64 k ∧ Blk wr w.heap.size #[v] 62 ∧ QRow wr w.heap.size 64 4 v k (regCells (ks.take k)) ∧ Turns nobody w wr ∧ (∀ j x, j < k → ks[j]? = some x → good x)) (fun i _ => ks.length - (intOf i).toNat)
  case atStart => exact ⟨0, _, Nat.zero_le _, rfl, B0, q0, k0, fun j x hj => by omega⟩
  case round =>
    clear B0 q0 k0
    obtain ⟨k, v, hle, rfl, B1, q1, k1, hg⟩ := hrel
    replace hg := hide hg
    by_cases hlt : k < ks.length
    · obtain ⟨x, hx⟩ : ∃ x, ks[k]? = some x := ⟨_, List.getElem?_eq_getElem hlt⟩
      obtain ⟨b, o, rfl, hb, c0, c1, c2⟩ := (hkk.out.still k1) k x hx
      have i00 : (0 : Int) ≤ (k : Int) := by omega
      have i1 : (k : Int) < (ks.length : Int) := by omega
      have l1 := B1.lt
      have B2 := Blk.new wr #[.int .u32 x.r, .int .u32 x.p, .int .u32 x.c] 41
      by_cases hgood : bits .and .u32 x.p x.c = 0
      · have v0 : wr.cell? ⟨w.heap.size, 0, none⟩ = some v := B1.cell 0
        have f0 := B1.frozen 0
        obtain ⟨A', c', rfl, hnc⟩ := q_slice q1
        have own : Hid (QRow (((wr.alloc (.cells #[.int .u32 x.r, .int .u32 x.p, .int .u32 x.c] 41)).alloc (.cells #[.int .u32 x.r, .int .u32 x.p, .int .u32 x.c, .int .u32 x.r] 64)).drew) w.heap.size 64 4 (.slice A' k c') k (regCells (ks.take k))) :=
          qrow_turns q1 (((Turns.refl nobody wr).alloc _).alloc _).drew (fun _ _ hh => hh.elim)
        have news : Hid (∀ j u', [Value.int .u32 x.r, .int .u32 x.p, .int .u32 x.c, .int .u32 x.r][j]? = some u' → (((wr.alloc (.cells #[.int .u32 x.r, .int .u32 x.p, .int .u32 x.c] 41)).alloc (.cells #[.int .u32 x.r, .int .u32 x.p, .int .u32 x.c, .int .u32 x.r] 64)).drew).cell? ((⟨wr.heap.size + 1, 0, none⟩ : Addr).add j) = some u') := by
          have B := (boxes2 wr #[.int .u32 x.r, .int .u32 x.p, .int .u32 x.c] #[.int .u32 x.r, .int .u32 x.p, .int .u32 x.c, .int .u32 x.r] 41 64).2
          exact fun j u' hj => World.news_of_block (w := _) (fr := (0, 0)) B j u' (by simpa using hj)
        have one : Hid (∀ u' ∈ [Value.int .u32 x.r, .int .u32 x.p, .int .u32 x.c, .int .u32 x.r], u'.oneCell' = true) := by
          intro u' hu
          simp at hu
          rcases hu with rfl | rfl | rfl | rfl
          all_goals rfl
        have b1 : Hid (k + 1 ≤ maxLen) := by unfold maxLen; exact hide (by omega)
        have b2 : Hid ((k + 1) * 16 ≤ 140737488355328) := hide (by omega)
        have ksz := k1.size
        have bb : Hid (w.heap.size ≤ (((wr.alloc (.cells #[.int .u32 x.r, .int .u32 x.p, .int .u32 x.c] 41)).alloc (.cells #[.int .u32 x.r, .int .u32 x.p, .int .u32 x.c, .int .u32 x.r] 64)).drew).heap.size) := hide (by simp; omega)
        have ne : Hid (¬ (Value.slice A' k c').ownBlock = some w.heap.size) := by
          refine hide ?_
          intro hb
          obtain ⟨_, cells, hc⟩ := q_typed q1 _ hb
          exact ne_of_types hc B1 (by decide) rfl
        go_upto_region 9 with fail
        go_region_law ((refine step_q_append rfl (.tmp 33) (.tmp 38) 60 rfl w.heap.size 64 i0 (.agg #[.int .u32 0, .int .u32 0, .int .u32 0, .int .u32 0]) 4 16 Try.underlying60 hi hz0 hz1 hz2 rfl (by decide) (.slice A' k c') k (regCells (ks.take k)) (by simp [Act.eval]) own.out ⟨wr.heap.size + 1, 0, none⟩ 1 1 [.int .u32 x.r, .int .u32 x.p, .int .u32 x.c, .int .u32 x.r] (by simp [Act.eval]) rfl news.out one.out (by decide) b1.out b2.out bb.out ?_; intro g off cap w1 hq hgr hat; have B3 := Blk.turns ((B1.alloc (.cells #[.int .u32 x.r, .int .u32 x.p, .int .u32 x.c] 41)).alloc (.cells #[.int .u32 x.r, .int .u32 x.p, .int .u32 x.c, .int .u32 x.r] 64)).drew (Turns.of_grown hgr) ne.out; have c1 := B3.cell 0; have f1 := B3.frozen 0))
        all_goals
          go_wp2_with fail
          go_roundw
          case rel =>
            refine ⟨k + 1, .slice (some ⟨g, off, none⟩) (k + 1) cap, by omega, by go_num, by simpa using B3.set 0 (.slice (some ⟨g, off, none⟩) (k + 1) cap), ?_, ?_, ?_⟩
            · rw [List.take_add_one, hx]
              simp only [Option.toList]
              rw [regCells_snoc]
              refine qrow_turns (S := (· = w.heap.size)) hq (by repeat' (first | exact Turns.refl _ _ | assumption | exact Or.inl rfl | exact Or.inr (Nat.le_refl _) | apply Turns.alloc | apply Turns.drew | apply Turns.drewN | apply Turns.setCell | (apply Or.inr; simp; done) | (apply Or.inr; simp; omega) | exact fun _ hh => False.elim hh | exact fun _ hh => Or.inl hh | (intro i hi; right; (try simp only at hi); omega) | (intro i hi; right; simp at hi; omega) | refine Turns.step ?_ (by assumption) ?_)) (fun g' hg' e => ?_)
              obtain ⟨_, cells, hc⟩ := q_typed hq g' hg'
              exact ne_of_types hc B3 (by decide) e
            · have K := ((k1.alloc (.cells #[.int .u32 x.r, .int .u32 x.p, .int .u32 x.c] 41)).alloc (.cells #[.int .u32 x.r, .int .u32 x.p, .int .u32 x.c, .int .u32 x.r] 64)).drew
              exact Turns.setCell (Turns.step K (Turns.of_grown hgr) (fun i hi => .inr (q_typed q1 i hi).1)) (.inr (Nat.le_refl _)) _
            · intro j y hj hy
              rcases Nat.lt_or_ge j k with h | h
              · exact hg.out j y h hy
              · obtain rfl : j = k := by omega
                rw [hx] at hy
                injection hy with hy
                subst hy
                exact hgood
          case measure => simp [intOf]; omega
      · go_wp2_with fail
        go_returns
        exact ⟨(by repeat' (first | exact Turns.refl _ _ | assumption | exact Or.inl rfl | exact Or.inr (Nat.le_refl _) | apply Turns.alloc | apply Turns.drew | apply Turns.drewN | apply Turns.setCell | (apply Or.inr; simp; done) | (apply Or.inr; simp; omega) | exact fun _ hh => False.elim hh | exact fun _ hh => Or.inl hh | (intro i hi; right; (try simp only at hi); omega) | (intro i hi; right; simp at hi; omega) | refine Turns.step ?_ (by assumption) ?_)), .inl ⟨rfl, x, List.mem_of_getElem? hx, hgood⟩⟩
    · obtain rfl : k = ks.length := by omega
      go_wp2_with fail
      go_returns
      rw [List.take_length] at q1
      have hall : ∀ x ∈ ks, good x := fun x hx => by
        obtain ⟨j, hj, e⟩ := List.mem_iff_getElem.1 hx
        exact hg.out j x hj (by rw [List.getElem?_eq_getElem hj, e])
      obtain ⟨g, o, c', h⟩ := fat_of_row B1 (Nat.le_refl _) q1 h0 h64
      exact ⟨(by repeat' (first | exact Turns.refl _ _ | assumption | exact Or.inl rfl | exact Or.inr (Nat.le_refl _) | apply Turns.alloc | apply Turns.drew | apply Turns.drewN | apply Turns.setCell | (apply Or.inr; simp; done) | (apply Or.inr; simp; omega) | exact fun _ hh => False.elim hh | exact fun _ hh => Or.inl hh | (intro i hi; right; (try simp only at hi); omega) | (intro i hi; right; simp at hi; omega) | refine Turns.step ?_ (by assumption) ?_)), .inr ⟨hall, _, g, o, c', rfl, h⟩⟩

end Go.Proofs.Ytdhifcjfkbidoaa
