/- Appends of bytes to a row of one's own. Conditions: none. -/
import Derived.Test.YtbiplmlkgbicnaaBytes
import Derived.Test.YtbiplmlkgbicnaaRows
import Derived.Test.YtbiplmlkgbicnaaPlain
import Derived.Test.YtbiplmlkgbicnaaWZeros
import Derived.Deep.RegionLaw
import Derived.Deep.RegionHeld3
import Derived.Deep.DeepCutAuto
import Derived.StillTailTactics
import Derived.WalkSpells
import Derived.WalkLawsBesides
set_option linter.unusedVariables false
namespace Go.Proofs.Ytbiplmlkgbicnaa
open Go.RowKit Go.Proofs.YtbiplmlkgbicnaaW.PrintWords

theorem Try.info5 : (Try.prog.info? 5).map (fun i => (i.zero, i.size, i.bytes)) = some (some (.int .u8 0), 1, 1) := by kernel_rfl

/-- A row of bytes of the call's own: the bytes bs. -/
def OwnB (w : World) (base : Nat) (v : Value) (bs : List Int) : Prop := w.ownsRow base 5 1 v bs.length (byteCells bs)

theorem OwnB.turns {w w' : World} {base : Nat} {v : Value} {bs : List Int} {S : Nat → Prop} (h : OwnB w base v bs) (k : Turns S w w') (hn : ∀ g, v.ownBlock = some g → ¬ S g) : OwnB w' base v bs := ownsRow_turns h k hn
theorem OwnB.still {w w' : World} {base : Nat} {v : Value} {bs : List Int} (h : OwnB w base v bs) (k : Turns nobody w w') : OwnB w' base v bs := h.turns k (fun _ _ hh => hh.elim)
theorem OwnB.form {w : World} {base : Nat} {v : Value} {bs : List Int} (h : OwnB w base v bs) : ∃ A c, v = .slice A bs.length c ∧ bs.length ≤ c ∧ c ≤ maxLen := by
  obtain ⟨A, c, h1, h2⟩ := q_slice (q_of_own h)
  rcases h.2 with ⟨h3, h4⟩ | ⟨g, cap, cur, h3, _, _, h5, h6, _⟩
  · rw [h1] at h3
    injection h3 with _ _ h3
    exact ⟨A, c, h1, h2, by rw [h3]; exact Nat.zero_le _⟩
  · rw [h1] at h3
    injection h3 with _ _ h3
    exact ⟨A, c, h1, h2, by rw [h3]; exact h6⟩
theorem OwnB.reads {w : World} {base : Nat} {A : Option Addr} {n c : Nat} {bs : List Int} (h : OwnB w base (.slice A n c) bs) : ReadsB w A bs := by
  obtain ⟨A', c', h1, _⟩ := h.form
  injection h1 with h1 h2 h3
  subst h2 h1 h3
  exact ReadsB.of_row (q_of_own h)
theorem OwnB.nil_slice (w : World) (base : Nat) : OwnB w base (.slice none 0 0) [] := World.ownsRow_nil _ _ _ _
theorem OwnB.empty {w : World} {base g : Nat} (h : Blk w g #[] 5) (hb : base ≤ g) : OwnB w base (.slice (some ⟨g, 0, none⟩) 0 0) [] :=
  ⟨rfl, .inr ⟨g, 0, #[], rfl, hb, h, Nat.le_refl _, Nat.zero_le _, rfl, rfl⟩⟩

theorem ReadsB.nth {w : World} {A : Option Addr} {bs : List Int} (h : ReadsB w A bs) (hp : 0 < bs.length) : ∃ b o, A = some ⟨b, o, none⟩ ∧ b < w.heap.size ∧ ∀ j, j < bs.length → w.cell? ⟨b, o + j, none⟩ = some (.int .u8 (nth bs j)) := h.cells hp
/-- append of bytes that are read. -/
theorem own_bytes {w0 w : World} {base : Nat} {v : Value} {ls : List Int} (ty : TypeId) (hown : OwnB w base v ls) {A : Option Addr} {m c : Nat} {bs : List Int} (hr : ReadsB w A bs) (hm : bs.length = m) (hle : ls.length + m ≤ 1000000)
    (hb : base ≤ w.heap.size) (k0 : Turns nobody w0 w) (h0 : w0.heap.size ≤ base) :
    ∃ A' c' w', (Builtin.append_ #[22, 22] ty #[v, .slice A m c]).run Try.prog w = .ok (.slice A' (ls ++ bs).length c') w' ∧ OwnB w' base (.slice A' (ls ++ bs).length c') (ls ++ bs) ∧ Turns nobody w0 w' ∧ Turns (fun k => v.ownBlock = some k) w w' := by
  subst hm
  obtain ⟨i0, hi, hz0, hz1, hz2⟩ := info_parts Try.info5
  have fin : ∀ v' w', w'.ownsRow base 5 1 v' (ls.length + bs.length) (byteCells ls ++ byteCells bs) → w.grownBy w' v.ownBlock → ∃ A' c', v' = .slice A' (ls ++ bs).length c' ∧ OwnB w' base (.slice A' (ls ++ bs).length c') (ls ++ bs) ∧ Turns nobody w0 w' ∧ Turns (fun k => v.ownBlock = some k) w w' := by
    intro v' w' ho hg
    have ho2 : OwnB w' base v' (ls ++ bs) := by
      unfold OwnB
      rw [List.length_append, show byteCells (ls ++ bs) = byteCells ls ++ byteCells bs from by simp [byteCells]]
      exact ho
    obtain ⟨A', c', e, _⟩ := ho2.form
    refine ⟨A', c', e, e ▸ ho2, Turns.step k0 (Turns.of_grown hg) fun i hi => .inr ?_, Turns.of_grown hg⟩
    have := (hown.lt i hi).1
    omega
  have h63 : ls.length + bs.length ≤ maxLen := by simp only [maxLen]; omega
  rcases A with _ | ad
  · have hn : bs = [] := by
      rcases hr with h | ⟨b, o, h, _⟩
      · exact h
      · cases h
    subst hn
    have hrun : (Builtin.append_ #[22, 22] ty #[v, .slice none 0 c]).run Try.prog w = .ok v w := by
      rcases hown.2 with ⟨h1, h2⟩ | ⟨g, cap, cur, h1, _, _, hnc, _⟩
      · rw [h1]
        simp [Builtin.append_, run_underlying Try.underlying22, sizeOf, typeInfo, hi, Builtin.lenOf, Builtin.firstCells]
      · rw [h1]
        simp [Builtin.append_, run_underlying Try.underlying22, sizeOf, typeInfo, hi, Builtin.lenOf, Builtin.firstCells, hnc, storeCells]
    obtain ⟨A', c', e, h1, h2⟩ := fin v w (by rw [show byteCells ([] : List Int) = [] from rfl, List.append_nil]; exact hown) (World.grownBy.refl w _)
    exact ⟨A', c', w, by rw [← e]; exact hrun, h1, h2⟩
  · have hcells : ∀ j u, (byteCells bs)[j]? = some u → w.cell? (ad.add j) = some u := by
      rcases hr with rfl | ⟨b, o, h, hc⟩
      · intro j u hj; simp [byteCells] at hj
      · injection h with h
        subst h
        intro j u hj
        rw [add_at]
        exact hc j u hj
    obtain ⟨v', w', hrun, h2, h3, _⟩ := run_append_own_at (P := Try.prog) w base 22 ty 5 i0 (.int .u8 0) 1 1 Try.underlying22 hi hz0 hz1 hz2 rfl (by decide) v ls.length (byteCells ls) hown ad bs.length c (byteCells bs) (by simp [byteCells]) hcells (byteCells_one bs) h63 (by omega) hb
    obtain ⟨A', c', e, h1, h2⟩ := fin v' w' h2 h3
    exact ⟨A', c', w', by rw [← e]; exact hrun, h1, h2⟩

/-- append of zeros. -/
theorem own_zeros {w0 w : World} {base : Nat} {v : Value} {ls : List Int} (ty : TypeId) (hown : OwnB w base v ls) (m : Nat) (hle : ls.length + m ≤ 1000000)
    (hb : base ≤ w.heap.size) (k0 : Turns nobody w0 w) (h0 : w0.heap.size ≤ base) :
    ∃ A' c' w', (Builtin.append_ #[22, 3] ty #[v, .int .i64 m]).run Try.prog w = .ok (.slice A' (ls ++ List.replicate m 0).length c') w' ∧ OwnB w' base (.slice A' (ls ++ List.replicate m 0).length c') (ls ++ List.replicate m 0) ∧ Turns nobody w0 w' := by
  obtain ⟨i0, hi, hz0, hz1, hz2⟩ := info_parts Try.info5
  have hz : (Builtin.zeroCells (Value.int .u8 0).cells m).toList = byteCells (List.replicate m 0) := by
    unfold Builtin.zeroCells byteCells
    simp [Value.cells]
    apply List.ext_getElem
    · simp
    · intro i h1 h2
      simp [Nat.mod_one]
  obtain ⟨v', w', hrun, h2, h3, _⟩ := run_append_zeros (P := Try.prog) w base 22 3 ty 5 i0 (.int .u8 0) 1 1 Try.underlying22 Try.underlying3 hi hz0 hz1 hz2 rfl (by decide) (by decide) v ls.length (byteCells ls) hown .i64 m (by rw [hz]; exact byteCells_one _) (by omega) hb
  rw [hz] at h2
  have ho2 : OwnB w' base v' (ls ++ List.replicate m 0) := by
    unfold OwnB
    rw [List.length_append, List.length_replicate, show byteCells (ls ++ List.replicate m 0) = byteCells ls ++ byteCells (List.replicate m 0) from by simp [byteCells]]
    exact h2
  obtain ⟨A', c', e, _⟩ := ho2.form
  refine ⟨A', c', w', by rw [← e]; exact hrun, e ▸ ho2, Turns.step k0 (Turns.of_grown h3) fun i hi => .inr ?_⟩
  have := (hown.lt i hi).1
  omega

section
variable {w : World}
theorem wp_own_bytes {o : Oper} {a : Act} {K : Act → World → Prop} {Q : Exit → Act → World → Prop} (s x : Operand)
    (ho : o.op = .call { callee := .builtin .append, args := #[s, x], argTypes := #[22, 22] }) {w0 : World} (base : Nat) (v : Value) (ls : List Int) (hs : a.eval s = v) (hown : OwnB w base v ls)
    (A : Option Addr) (m c : Nat) (bs : List Int) (hx : a.eval x = .slice A m c) (hr : ReadsB w A bs) (hm : bs.length = m) (hle : ls.length + m ≤ 1000000) (hb : base ≤ w.heap.size) (k0 : Turns nobody w0 w) (h0 : w0.heap.size ≤ base)
    (h : ∀ (L : List Int), Hid (L = ls ++ bs) → ∀ A' c' w', OwnB w' base (.slice A' L.length c') L → Turns nobody w0 w' → Turns (fun k => v.ownBlock = some k) w w' → K (a.put o.dst (.slice A' L.length c')) w') : o.wp Try.prog a w K Q := by
  obtain ⟨A', c', w', hr, h2, h3, h4⟩ := own_bytes o.type hown (c := c) hr hm hle hb k0 h0
  unfold Oper.wp execOp
  simp only [ho, resolve, invoke, builtin, Sem.run_bind, Sem.run_pure, Result.andThen_ok, List.map_toArray, List.map_cons, List.map_nil, hs, hx, hr]
  exact h _ (hide rfl) A' c' w' h2 h3 h4
theorem wpList_own_bytes {ops : Array Oper} {rest : List Oper} {o : Oper} {a : Act} {Q : Exit → Act → World → Prop} (hgd : o.guard = none) (s x : Operand)
    (ho : o.op = .call { callee := .builtin .append, args := #[s, x], argTypes := #[22, 22] }) {w0 : World} (base : Nat) (v : Value) (ls : List Int) (hs : a.eval s = v) (hown : OwnB w base v ls)
    (A : Option Addr) (m c : Nat) (bs : List Int) (hx : a.eval x = .slice A m c) (hr : ReadsB w A bs) (hm : bs.length = m) (hle : ls.length + m ≤ 1000000) (hb : base ≤ w.heap.size) (k0 : Turns nobody w0 w) (h0 : w0.heap.size ≤ base)
    (h : ∀ (L : List Int), Hid (L = ls ++ bs) → ∀ A' c' w', OwnB w' base (.slice A' L.length c') L → Turns nobody w0 w' → Turns (fun k => v.ownBlock = some k) w w' → wpList Try.prog ops Q rest (a.put o.dst (.slice A' L.length c')) w') : wpList Try.prog ops Q (o :: rest) a w :=
  wpList_plain hgd fun _ hK => wp_own_bytes s x ho base v ls hs hown A m c bs hx hr hm hle hb k0 h0 fun L hL A' c' w' h2 h3 h4 => hK _ _ (h L hL A' c' w' h2 h3 h4)
theorem step_own_bytes {ops : Array Oper} {o : Oper} {a : Act} {K : Act → World → Prop} {Q : Exit → Act → World → Prop} {E : Prop} (hgd : o.guard = none) (s x : Operand)
    (ho : o.op = .call { callee := .builtin .append, args := #[s, x], argTypes := #[22, 22] }) {w0 : World} (base : Nat) (v : Value) (ls : List Int) (hs : a.eval s = v) (hown : OwnB w base v ls)
    (A : Option Addr) (m c : Nat) (bs : List Int) (hx : a.eval x = .slice A m c) (hr : ReadsB w A bs) (hm : bs.length = m) (hle : ls.length + m ≤ 1000000) (hb : base ≤ w.heap.size) (k0 : Turns nobody w0 w) (h0 : w0.heap.size ≤ base)
    (h : ∀ (L : List Int), Hid (L = ls ++ bs) → ∀ A' c' w', OwnB w' base (.slice A' L.length c') L → Turns nobody w0 w' → Turns (fun k => v.ownBlock = some k) w w' → K (a.put o.dst (.slice A' L.length c')) w') : if Region.wanted o (yielded ops a.tmps) = true then Oper.wp Try.prog o a w K Q else E := by
  have hw : Region.wanted o (yielded ops a.tmps) = true := by simp [Region.wanted, hgd]
  rw [if_pos hw]
  exact wp_own_bytes s x ho base v ls hs hown A m c bs hx hr hm hle hb k0 h0 h
theorem wpList_own_zeros {ops : Array Oper} {rest : List Oper} {o : Oper} {a : Act} {Q : Exit → Act → World → Prop} (hgd : o.guard = none) (s x : Operand)
    (ho : o.op = .call { callee := .builtin .append, args := #[s, x], argTypes := #[22, 3] }) {w0 : World} (base : Nat) (v : Value) (ls : List Int) (hs : a.eval s = v) (hown : OwnB w base v ls)
    (x0 : Int) (hx : a.eval x = .int .i64 x0) (m : Nat) (hxm : x0 = m) (hle : ls.length + m ≤ 1000000) (hb : base ≤ w.heap.size) (k0 : Turns nobody w0 w) (h0 : w0.heap.size ≤ base)
    (h : ∀ (L : List Int), Hid (L = ls ++ List.replicate m 0) → ∀ A' c' w', OwnB w' base (.slice A' L.length c') L → Turns nobody w0 w' → wpList Try.prog ops Q rest (a.put o.dst (.slice A' L.length c')) w') : wpList Try.prog ops Q (o :: rest) a w := by
  subst hxm
  obtain ⟨A', c', w', hr, h2, h3⟩ := own_zeros o.type hown m hle hb k0 h0
  refine wpList_plain hgd fun K hK => ?_
  unfold Oper.wp execOp
  simp only [ho, resolve, invoke, builtin, Sem.run_bind, Sem.run_pure, Result.andThen_ok, List.map_toArray, List.map_cons, List.map_nil, hs, hx, hr]
  exact hK _ _ (h _ (hide rfl) A' c' w' h2 h3)
end

end Go.Proofs.Ytbiplmlkgbicnaa
