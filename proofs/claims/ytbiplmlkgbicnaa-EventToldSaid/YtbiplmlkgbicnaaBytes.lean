/- Bytes that are read, and made a string. Conditions: none. -/
import Derived.Test.YtbiplmlkgbicnaaRow
import Derived.Test.YtbiplmlkgbicnaaOpens
import Derived.Laws.BytesArg
set_option linter.unusedVariables false
namespace Go.Proofs.Ytbiplmlkgbicnaa
open Go.RowKit Go.Proofs.YtbiplmlkgbicnaaW.PrintWords

def byteCells (bs : List Int) : List Value := bs.map (Value.int .u8)
theorem byteCells_length (bs : List Int) : (byteCells bs).length = bs.length := by simp [byteCells]
theorem byteCells_get {bs : List Int} {j : Nat} (h : j < bs.length) : (byteCells bs)[j]? = some (.int .u8 (bs.getD j 0)) := by simp [byteCells, h, List.getD]
theorem byteCells_one (bs : List Int) : ∀ u ∈ byteCells bs, u.oneCell' = true := by
  intro u hu
  simp only [byteCells, List.mem_map] at hu
  obtain ⟨x, _, rfl⟩ := hu
  rfl

/-- At A lie the bytes bs. -/
def ReadsB (w : World) (A : Option Addr) (bs : List Int) : Prop :=
  bs = [] ∨ ∃ b o, A = some ⟨b, o, none⟩ ∧ ∀ j u, (byteCells bs)[j]? = some u → w.cell? ⟨b, o + j, none⟩ = some u

theorem ReadsB.nil (w : World) (A : Option Addr) : ReadsB w A [] := .inl rfl
theorem ReadsB.turns {w w' : World} {A : Option Addr} {bs : List Int} {S : Nat → Prop} (h : ReadsB w A bs) (k : Turns S w w') (hn : ∀ a, A = some a → ¬ S a.block) : ReadsB w' A bs := by
  rcases h with h | ⟨b, o, rfl, h⟩
  · exact .inl h
  · refine .inr ⟨b, o, rfl, fun j u hj => ?_⟩
    have hc := h j u hj
    have hl := block_lt_of_cell hc
    rw [← hc]
    exact World.cell?_of_block (k.block b hl (hn _ rfl))
theorem ReadsB.still {w w' : World} {A : Option Addr} {bs : List Int} (h : ReadsB w A bs) (k : Turns nobody w w') : ReadsB w' A bs := h.turns k (fun _ _ hh => hh.elim)
theorem ReadsB.cells {w : World} {A : Option Addr} {bs : List Int} (h : ReadsB w A bs) (hp : 0 < bs.length) : ∃ b o, A = some ⟨b, o, none⟩ ∧ b < w.heap.size ∧ ∀ j, j < bs.length → w.cell? ⟨b, o + j, none⟩ = some (.int .u8 (bs.getD j 0)) := by
  rcases h with rfl | ⟨b, o, rfl, h⟩
  · simp at hp
  · exact ⟨b, o, rfl, block_lt_of_cell (h 0 _ (byteCells_get hp)), fun j hj => h j _ (byteCells_get hj)⟩
theorem ReadsB.of_row {w : World} {base : Nat} {e : TypeId} {A : Option Addr} {c : Nat} {bs : List Int} (h : QRow w base e 1 (.slice A bs.length c) bs.length (byteCells bs)) : ReadsB w A bs := by
  rcases Nat.eq_zero_or_pos bs.length with h0 | hp
  · exact .inl (List.eq_nil_of_length_eq_zero h0)
  · obtain ⟨g, o, c', hv, _, _, _, hc⟩ := q_form h hp
    injection hv with hA _ _
    exact .inr ⟨g, o, hA, hc⟩
theorem ReadsB.news {w : World} {A : Option Addr} {bs : List Int} (h : ReadsB w A bs) (hp : 0 < bs.length) : ∃ a, A = some a ∧ ∀ j u, (byteCells bs)[j]? = some u → w.cell? (a.add j) = some u := by
  rcases h with rfl | ⟨b, o, rfl, h⟩
  · simp at hp
  · exact ⟨_, rfl, fun j u hj => by rw [add_at]; exact h j u hj⟩

theorem ReadsB.string {P : Program} {w : World} {src dst e : TypeId} {A : Option Addr} {c : Nat} {bs : List Int} (hs : P.underlying src = some (.slice e)) (he : P.underlying e = some (.int .u8)) (hd : P.underlying dst = some .string)
    (h : ReadsB w A bs) : (convert src dst (.slice A bs.length c)).run P w = .ok (.string (strOfNums bs)) w := by
  rcases h with rfl | ⟨b, o, rfl, h⟩
  · cases A with
    | none => rw [run_convert_bytes_nil w src e hs he _ _ dst hd]; rfl
    | some a =>
      rw [run_convert_bytes_string w src dst e _ _ c hs he hd]
      have := run_bytesToString (P := P) w a 0 c [] (run_loadCells_list (P := P) w a [] (fun j v hj => by simp at hj))
      exact this
  · exact run_convert_bytes_arg w src e hs he b o bs.length c bs rfl (fun i hi => h i _ (byteCells_get hi)) dst hd

theorem open_bytes {P : Program} {w : World} {n : Nat} {t e : TypeId} {A : Option Addr} {len cap : Nat} (hf : Fits P w n t [.slice A len cap]) (ht : P.underlying t = some (.slice e)) (he : P.underlying e = some (.int .u8)) (hc : P.cellsOf e = 1) :
    ∃ bs : List Int, bs.length = len ∧ ReadsB w A bs ∧ (∀ x ∈ bs, 0 ≤ x ∧ x ≤ 255) ∧ len ≤ cap ∧ cap ≤ maxLen := by
  obtain ⟨A', len', cap', he', hl, hm, _, h⟩ := hf.slice ht (by rw [hc]; decide)
  simp at he'
  obtain ⟨rfl, rfl, rfl⟩ := he'
  rw [hc] at h
  have h2 : ∀ i, i < len → ∃ x : Int, (0 ≤ x ∧ x ≤ 255) ∧ ∃ b o, A = some ⟨b, o, none⟩ ∧ w.cell? ⟨b, o + i, none⟩ = some (.int .u8 x) := by
    intro i hi
    obtain ⟨b, o, xs, m, hA, hcell, hx⟩ := h i hi
    obtain ⟨x, rfl, wx⟩ := hx.int he
    refine ⟨x, bounds_u8 wx, b, o, hA, ?_⟩
    have := hcell 0 _ rfl
    rwa [Nat.mul_one, Nat.add_zero] at this
  obtain ⟨f, hf2⟩ := Deep.choose_lt h2
  refine ⟨(List.range len).map f, by simp, ?_, ?_, hl, hm⟩
  · rcases Nat.eq_zero_or_pos len with h0 | hp
    · exact .inl (by simp [h0])
    · obtain ⟨_, b, o, hA, _⟩ := hf2 0 hp
      refine .inr ⟨b, o, hA, fun j u hj => ?_⟩
      have hjl : j < len := by
        have := (List.getElem?_eq_some_iff.1 hj).1
        simpa [byteCells] using this
      obtain ⟨_, b', o', hA', hcj⟩ := hf2 j hjl
      rw [hA] at hA'
      injection hA' with hA'
      injection hA' with hb ho _
      subst hb ho
      simp [byteCells, hjl] at hj
      subst hj
      exact hcj
  · intro x hx
    simp only [List.mem_map, List.mem_range] at hx
    obtain ⟨i, hi, rfl⟩ := hx
    exact (hf2 i hi).1

end Go.Proofs.Ytbiplmlkgbicnaa
