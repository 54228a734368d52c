/- Stores and loads of a whole that lies in a block. Conditions: none. -/
import Derived.Test.YtbiplmlkgbicnaaTake
import Derived.Deep.MidRow
set_option linter.unusedVariables false
namespace Go.Proofs.Ytbiplmlkgbicnaa
open Go.RowKit Go.Proofs.YtbiplmlkgbicnaaW.PrintWords

section
variable {P : Program} {ops : Array Oper} {rest : List Oper} {op : Oper} {a : Act} {w : World} {K : Act → World → Prop} {Q : Exit → Act → World → Prop}
theorem turns_setCells {g o : Nat} (vs : List Value) (w : World) : Turns (· = g) w (w.setCells g o vs) := by
  obtain ⟨h1, h2, h3, h4⟩ := setCells_same g vs o w
  exact ⟨h1, h2, h3, Nat.le_of_eq h4.symm, fun k _ hn => setCells_far vs o k hn⟩
theorem wp_store_whole (ty : TypeId) (x y : Operand) (ho : op.op = .store ty x y) (g : Nat) (cur cells : Array Value) (t : TypeId) (hx : a.eval x = .pointer (some ⟨g, 0, none⟩)) (hy : a.eval y = .agg cells)
    (hB : Blk w g cur t) (hs : cur.size = cells.size) (hi : (P.info? ty).map (·.size) = some cells.size) (h1 : cells.all (·.oneCell') = true)
    (h : ∀ w', Blk w' g cells t → Turns (· = g) w w' → K (a.put op.dst undef) w') : op.wp P a w K Q := by
  refine wp_store_mid ty x y ho g 0 cells hx hy (fun j hj => ⟨by rw [Nat.zero_add, hB.cell]; simp; omega, by rw [Nat.zero_add]; exact hB.frozen j⟩) hi h1 ?_
  obtain ⟨cur', h2, h3, h4⟩ := setCells_row cells.toList 0 w cur hB (by simp; omega)
  refine h _ ?_ (turns_setCells _ _)
  have : cur' = cells := by
    apply Array.ext'
    rw [h4]
    simp
    omega
  rw [this] at h2
  exact h2
theorem wpList_store_whole (hgd : op.guard = none) (ty : TypeId) (x y : Operand) (ho : op.op = .store ty x y) (g : Nat) (cur cells : Array Value) (t : TypeId) (hx : a.eval x = .pointer (some ⟨g, 0, none⟩)) (hy : a.eval y = .agg cells)
    (hB : Blk w g cur t) (hs : cur.size = cells.size) (hi : (P.info? ty).map (·.size) = some cells.size) (h1 : cells.all (·.oneCell') = true)
    (h : ∀ w', Blk w' g cells t → Turns (· = g) w w' → wpList P ops Q rest (a.put op.dst undef) w') : wpList P ops Q (op :: rest) a w :=
  wpList_plain hgd fun _ hK => wp_store_whole ty x y ho g cur cells t hx hy hB hs hi h1 fun w' h2 h3 => hK _ _ (h w' h2 h3)
theorem step_store_whole {E : Prop} (hgd : op.guard = none) (ty : TypeId) (x y : Operand) (ho : op.op = .store ty x y) (g : Nat) (cur cells : Array Value) (t : TypeId) (hx : a.eval x = .pointer (some ⟨g, 0, none⟩)) (hy : a.eval y = .agg cells)
    (hB : Blk w g cur t) (hs : cur.size = cells.size) (hi : (P.info? ty).map (·.size) = some cells.size) (h1 : cells.all (·.oneCell') = true)
    (h : ∀ w', Blk w' g cells t → Turns (· = g) w w' → K (a.put op.dst undef) w') : if Region.wanted op (yielded ops a.tmps) = true then Oper.wp P op a w K Q else E := by
  have hw : Region.wanted op (yielded ops a.tmps) = true := by simp [Region.wanted, hgd]
  rw [if_pos hw]
  exact wp_store_whole ty x y ho g cur cells t hx hy hB hs hi h1 h
theorem wpList_load_whole (hgd : op.guard = none) (ty : TypeId) (x : Operand) (ho : op.op = .load ty x) (g o : Nat) (cs : Array Value) (t : TypeId) (hx : a.eval x = .pointer (some ⟨g, o, none⟩)) (cells : List Value) (d : TypeDesc)
    (hB : Blk w g cs t) (hc : ∀ j v, cells[j]? = some v → cs[o + j]? = some v) (hu : P.underlying ty = some d) (hd : d.isRow = true) (hi : (P.info? ty).map (·.size) = some cells.length)
    (h : wpList P ops Q rest (a.put op.dst (.agg cells.toArray)) w) : wpList P ops Q (op :: rest) a w :=
  wpList_load_mid hgd ty x ho g o hx cells d (fun j v hv => (hB.cell _).trans (hc j v hv)) hu hd hi h
end
theorem OwnB.fresh (w : World) {g base : Nat} (hg : w.heap.size = g) (hb : base ≤ g) : OwnB (w.alloc (.cells #[] 5)) base (.slice (some ⟨g, 0, none⟩) 0 0) [] := by
  subst hg
  exact OwnB.empty (Blk.new _ _ _) hb
theorem Try.info39 : (Try.prog.info? 39).map (·.size) = some 15 := by kernel_rfl
/-- Results: a frame that lies in a block, and a number. -/
theorem ret_frame {fn : Func} {p u : Tmp} (h : fn.results = #[.cell p 39, .tmp u]) (tmps : Array Value) (w : World) (g : Nat) (cs : Array Value) (hp : tmps.getD p undef = .pointer (some ⟨g, 0, none⟩)) (hg : Blk w g cs 39) (hs : cs.size = 15) :
    (results fn tmps).run Try.prog w = .ok (.tuple #[.agg cs, tmps.getD u undef]) w := ret_row_tmp h tmps w g 39 cs _ hp hg Try.underlying39 rfl (by rw [Try.info39, hs])

end Go.Proofs.Ytbiplmlkgbicnaa
