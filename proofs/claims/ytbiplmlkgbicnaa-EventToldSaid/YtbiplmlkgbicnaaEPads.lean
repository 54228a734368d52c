/- The walk of the law 'EventPads'. -/
import Derived.Test.YtbiplmlkgbicnaaESync
set_option linter.unusedVariables false
namespace Go.Proofs.Ytbiplmlkgbicnaa
open Go.RowKit Go.Proofs.YtbiplmlkgbicnaaW.PrintWords

theorem and243 (x : Int) (h : 0 ≤ x ∧ x ≤ 255) : ∃ a b, bits .and .u8 x 243 = a ∧ bits .and .u8 x 3 = b ∧ a % 16 = b ∧ b ≤ 3 ∧ 0 ≤ b ∧ 0 ≤ a ∧ a ≤ 255 := by
  have c : ∀ n : Fin 256, bits .and .u8 (n.val : Int) 243 % 16 = bits .and .u8 (n.val : Int) 3 ∧ bits .and .u8 (n.val : Int) 3 ≤ 3 ∧ 0 ≤ bits .and .u8 (n.val : Int) 3 ∧ 0 ≤ bits .and .u8 (n.val : Int) 243 ∧ bits .and .u8 (n.val : Int) 243 ≤ 255 := by decide +kernel
  have b := c ⟨x.toNat, by omega⟩
  simp only at b
  rw [Int.toNat_of_nonneg h.1] at b
  exact ⟨_, _, rfl, rfl, b⟩
theorem nth_append {l z : List Int} {i : Nat} (h : i < l.length) : nth (l ++ z) i = nth l i := by
  simp [nth, List.getElem?_append_left h]
def padF (src : Ad) (l : List Int) : Frm := ⟨⟨0, 0, 0, 0, 0, 0⟩, src, -1, 35063, l⟩
theorem padF_bad (src : Ad) {l : List Int} (h2 : l.length ≤ 119) : bad (padF src l) = 0 :=
  ok_bad (Int.le_refl _) (by show (-1 : Int) ≤ 65535; decide) (.inr (by show 1536 ≤ (35063 : Int) ∧ (35063 : Int) ≤ 65535 ∧ (35063 : Int) ≠ 33024; decide)) (by show l.length ≤ 1500; omega)
theorem pads_read {l : List Int} {x : Int} {src : Ad} (hl : 20 ≤ l.length) (h2 : l.length ≤ 119) (hB : Bytes l) (h0 : nth l 0 = x) (h1 : nth l 1 = 2) (hx : x % 16 ≤ 3) (hs : Bytes src.list) {bs : List Int} (eb : built (padF src l) = bs) :
    parseE bs = 0 ∧ parseF bs = normF (padF src l) ∧ Bytes bs ∧ 60 ≤ bs.length ∧ isEv 0 (normF (padF src l)) = true ∧ Bytes (normF (padF src l)).data ∧ nth (normF (padF src l)).data 0 = x ∧ ∀ i, i < l.length → nth (normF (padF src l)).data i = nth l i := by
  have hb := padF_bad src h2
  have ok : (padF src l).Ok := ⟨by simp [Bytes, padF, Ad.list], hs, hB⟩
  have en : (normF (padF src l)).data = l ++ List.replicate (60 - (14 + l.length)) 0 := rfl
  have ey : (normF (padF src l)).typ = 35063 := rfl
  refine ⟨eb ▸ (parse_built hb).1, eb ▸ (parse_built hb).2, eb ▸ built_bytes ok hb, by rw [← eb, built_length]; omega, ?_, ?_, ?_, ?_⟩
  · unfold isEv
    rw [en, ey, nth_append (by omega), nth_append (by omega), h0, h1]
    simp [hx]
    omega
  · rw [en]
    exact hB.append (Bytes.zeros _)
  · rw [en, nth_append (by omega), h0]
  · intro i hi
    rw [en, nth_append hi]
theorem cut_read {bs : List Int} (hB : Bytes bs) : isEv (parseE (bs.take 47)) (parseF (bs.take 47)) = false ∧ Bytes (parseF (bs.take 47)).data := by
  by_cases he : parseE (bs.take 47) = 0
  · have e : parseF (bs.take 47) = whole (bs.take 47) := by unfold parseF; rw [if_pos he]
    refine ⟨?_, e ▸ (whole_ok (hB.take 47)).data⟩
    have hl : (whole (bs.take 47)).data.length ≤ 33 := by
      show (dataOf (bs.take 47)).length ≤ 33
      have e1 : (restOf (bs.take 47)).length ≤ 33 := by
        unfold restOf atOf
        rw [List.length_drop, List.length_take]
        split <;> omega
      unfold dataOf
      split
      · rw [List.length_take]; omega
      · exact e1
    have hn : ¬ 34 ≤ (whole (bs.take 47)).data.length := by omega
    rw [e]
    simp [isEv, hn]
  · rw [parseF_err he]
    exact ⟨by simp [isEv, he], Bytes.nil⟩
theorem kind_no_n (A : Option Addr) (n c : Nat) (bs : List Int) (w : World) (hn : bs.length = n) (hr : ReadsB w A bs) (hB : Bytes bs) (hc : n ≤ c) (hm : c ≤ maxLen) (hd : Bytes (parseF bs).data) (hv : isEv (parseE bs) (parseF bs) = false) :
    Calls Try.prog 23 #[.slice A n c] w fun e w' => e = .returned (.tuple #[.int .i64 0, .int .i64 0, .bool false]) ∧ Turns nobody w w' := by
  subst hn
  exact kind_no A c bs w hr hB hc hm rfl rfl hd hv
theorem makeM (n : Nat) (hn : n ≤ 1000000) {cs : Array Value} (hcs : madeCells #[.int .u8 0] n = cs) : ∀ W : World, (Instr.makeSlice 22 (.int .i64 (n : Int)) (.int .i64 (n : Int))).run Try.prog W = .ok (.slice (some ⟨W.heap.size, 0, none⟩) n n) (W.alloc (.cells cs 5)) := by
  intro W
  subst hcs
  obtain ⟨i0, hi, hz0, hz1, hz2⟩ := info_parts Try.info5
  have h := run_make (P := Try.prog) W 22 5 i0 (.int .u8 0) Try.underlying22 hi hz0 .i64 .i64 n n (by omega) (Int.le_refl _) (by rw [hz2]; omega) (by omega)
  rw [hz1] at h
  simpa [Value.cells] using h
theorem rd_cells (W : World) {g : Nat} (hg : W.heap.size = g) (cs : Array Value) (l : List Int) (e : cs.toList = byteCells l) : ReadsB (W.alloc (.cells cs 5)) (some ⟨g, 0, none⟩) l := by
  subst hg
  refine .inr ⟨_, _, rfl, fun j u hj => ?_⟩
  rw [Nat.zero_add, (Blk.new W _ 5).cell j, ← Array.getElem?_toList, e]
  exact hj
theorem build_m (f : Frm) (A : Option Addr) (n c : Nat) (w : World) (hn : f.data.length = n) (hb : bad f = 0) (hr : ReadsB w A f.data) {bs : List Int} (e : built f = bs) :
    Calls Try.prog 26 #[.agg #[.int .u8 f.d.a0, .int .u8 f.d.a1, .int .u8 f.d.a2, .int .u8 f.d.a3, .int .u8 f.d.a4, .int .u8 f.d.a5, .int .u8 f.s.a0, .int .u8 f.s.a1, .int .u8 f.s.a2, .int .u8 f.s.a3, .int .u8 f.s.a4, .int .u8 f.s.a5, .int .i64 f.tag, .int .i64 f.typ, .slice A n c]] w fun e w' => ∃ X k, e = .returned (.tuple #[.slice X bs.length k, .int .i64 0]) ∧ OwnB w' w.heap.size (.slice X bs.length k) bs ∧ Turns nobody w w' := by
  subst hn
  exact build_as f A c w hb hr e

set_option maxHeartbeats 4000000 in
set_option maxRecDepth 100000 in
theorem eventPads_walk (u q v : Int) (ds : Array Value) (w : World) {n : Nat} (wu : (Lit.int .u8 u).wf = true) (wq : (Lit.int .u16 q).wf = true) (wv : (Lit.int .u8 v).wf = true) (hf : Fits Try.prog w n 27 ds.toList) :
    Calls Try.prog 5 #[.int .u8 u, .int .u16 q, .int .u8 v, .agg ds] w fun e w' => e = .returned (.bool true) ∧ Below w.heap.size w w' := by
  obtain ⟨a, ha0, ha⟩ := open_addr hf
  obtain rfl := arr_of ha0
  obtain ⟨q0, q1⟩ := bounds_u16 wq
  obtain ⟨v0, v1⟩ := bounds_u8 wv
  obtain ⟨x, y, ex, ey, hxy, y3, y0, x0, x255⟩ := and243 u (bounds_u8 wu)
  obtain ⟨M, hM0, hM1, eM⟩ : ∃ M : Nat, 20 ≤ M ∧ M ≤ 119 ∧ 20 + v % 100 = M := ⟨(20 + v % 100).toNat, by omega, by omega, by omega⟩
  clear wu wq wv hf ha0
  have hw1 : IntKind.u8.wrap (q / 256) = q / 256 := by rw [IntKind.wrap_u8']; omega
  have hw2 : IntKind.u8.wrap q = q % 256 := by rw [IntKind.wrap_u8']
  have B0 := Blk.new w #[.int .u8 a.a0, .int .u8 a.a1, .int .u8 a.a2, .int .u8 a.a3, .int .u8 a.a4, .int .u8 a.a5] 27
  have k0 : Turns nobody w (w.alloc (.cells #[.int .u8 a.a0, .int .u8 a.a1, .int .u8 a.a2, .int .u8 a.a3, .int .u8 a.a4, .int .u8 a.a5] 27)) := (by repeat' (first | exact Turns.refl _ _ | assumption | exact Or.inl rfl | exact Or.inr (Nat.le_refl _) | apply Turns.alloc | apply Turns.drew | apply Turns.drewN | apply Turns.setCell | (apply Or.inr; simp; done) | (apply Or.inr; simp; omega) | exact fun _ hh => False.elim hh | exact fun _ hh => Or.inl hh | (intro i hi; right; (try simp only at hi); omega) | (intro i hi; right; simp at hi; omega) | refine Turns.step ?_ (by assumption) ?_))
  obtain ⟨cs, hcs⟩ : ∃ cs, madeCells #[.int .u8 0] M = cs := ⟨_, rfl⟩
  have hmk := makeM M (by omega) hcs
  have zM : cs.size = M := by rw [← hcs]; simp [madeCells]
  have z0 : 0 < M := by omega
  have z1 : 1 < M := by omega
  have j0 : (0 : Int) < (M : Int) := by omega
  have j1 : (1 : Int) < (M : Int) := by omega
  have hz : Bytes (List.replicate M 0) := Bytes.zeros _
  have hset : ∀ (l : List Int) i y, Bytes l → 0 ≤ y ∧ y ≤ 255 → Bytes (l.set i y) := fun l i y h hy z hz => by
    rcases List.mem_or_eq_of_mem_set hz with h1 | h1
    · exact h z h1
    · exact h1 ▸ hy
  replace ha := hide ha
  by_cases h31 : 31 < M
  · have z30 : 30 < M := by omega
    have g31 : (31 : Int) < (M : Int) := by omega
    have j30 : (30 : Int) < (M : Int) := by omega
    obtain ⟨l, el⟩ : ∃ l, ((((List.replicate M 0).set 0 x).set 1 2).set 30 (q / 256)).set 31 (q % 256) = l := ⟨_, rfl⟩
    obtain ⟨bs, eb⟩ : ∃ bs, built (padF a l) = bs := ⟨_, rfl⟩
    replace ha := ha.out
    have ll : l.length = M := by rw [← el]; simp
    obtain ⟨p1, p2, p3, p4, p5, p6, p7, p8⟩ := pads_read (l := l) (x := x) (src := a) (by omega) (by omega) (by rw [← el]; exact hset _ _ _ (hset _ _ _ (hset _ _ _ (hset _ _ _ hz (by omega)) (by omega)) (by omega)) (by omega)) (by rw [← el]; (simp [nth, z0])) (by rw [← el]; (simp [nth, z1])) (by omega) ha (bs := bs) eb
    have hK := fun X k w hr hc hm => kind_yes X k bs w hr p3 hc hm p1 p2 p6 p5
    rw [p7, hxy] at hK
    (rw [p8 30 (by omega), p8 31 (by omega), show nth l 30 * 256 + nth l 31 = q from (by rw [← el]; simp [nth, z30, h31]; omega)] at hK)
    obtain ⟨c1, c2⟩ := cut_read p3
    have hC := fun X k w hr hc hm => kind_no_n X 47 k (bs.take 47) w (by rw [List.length_take]; omega) hr (p3.take 47) hc hm c2 c1
    have hS := fun A c w hr => build_m (padF a l) A M c w ll (padF_bad a (by omega)) hr eb
    have hR := fun W => rd_cells W (g := W.heap.size) rfl ((((cs.setIfInBounds 0 (.int .u8 x)).setIfInBounds 1 (.int .u8 2)).setIfInBounds 30 (.int .u8 (q / 256))).setIfInBounds 31 (.int .u8 (q % 256))) l (by rw [← el]; simp only [Array.toList_setIfInBounds]; rw [← hcs, made_list]; simp [byteCells, List.map_set])
    have nb : (60 : Int) ≤ (bs.length : Int) := by omega
    have hmin : min (bs.length : Int) 47 = 47 := by omega
    clear p1 p2 p3 p5 p6 p7 p8 c1 c2 eb el ll hcs
    replace hK := hide hK
    replace hC := hide hC
    replace hS := hide hS
    replace hR := hide hR
    go_enter Try.func5, Try.ntmps5
    go_wp2_with fail
    refine (eshown_at _).mono ?_
    rintro e w1 ⟨rfl, k1⟩
    try clear cB0 fB0
    replace B0 := B0.turns k1 (by intro hh; first | exact False.elim hh | ((try simp only at hh); omega) | (simp at hh; omega))
    have cB0 := B0.cell; have fB0 := B0.frozen
    replace k1 := k0.trans k1
    have rE := hide (hR.out w1)
    have lB0 := B0.lt
    go_wp2_with fail
    refine (hS.out _ M _ rE.out).mono ?_
    rintro e w2 ⟨X, k, rfl, o2, k2⟩
    obtain ⟨x1, x2⟩ := o2.caps
    have rX := o2.reads
    clear o2 cB0 fB0 lB0 B0 rE
    have i47 : (47 : Int) ≤ (k : Int) := by omega
    replace k1 := Turns.trans (k1.alloc _) k2
    go_wp2_with fail
    refine (hK.out X k _ rX x1 x2).mono ?_
    rintro e w3 ⟨rfl, k3⟩
    replace rX := hide (rX.still k3)
    go_wp2_with fail
    refine (hC.out X k _ (rX.out.take 47) (by omega) x2).mono ?_
    rintro e w4 ⟨rfl, k4⟩
    go_wp2_with fail
    go_returns
    exact ⟨rfl, Turns.none_below ((k1.trans k3).trans k4)⟩
  · have g31 : ¬ ((31 : Int) < (M : Int)) := by omega
    have g31' : (M : Int) ≤ 31 := by omega
    obtain ⟨l, el⟩ : ∃ l, ((List.replicate M 0).set 0 x).set 1 2 = l := ⟨_, rfl⟩
    obtain ⟨bs, eb⟩ : ∃ bs, built (padF a l) = bs := ⟨_, rfl⟩
    replace ha := ha.out
    have ll : l.length = M := by rw [← el]; simp
    obtain ⟨p1, p2, p3, p4, p5, p6, p7, p8⟩ := pads_read (l := l) (x := x) (src := a) (by omega) (by omega) (by rw [← el]; exact hset _ _ _ (hset _ _ _ hz (by omega)) (by omega)) (by rw [← el]; (simp [nth, z0])) (by rw [← el]; (simp [nth, z1])) (by omega) ha (bs := bs) eb
    have hK := fun X k w hr hc hm => kind_yes X k bs w hr p3 hc hm p1 p2 p6 p5
    rw [p7, hxy] at hK
    skip
    obtain ⟨c1, c2⟩ := cut_read p3
    have hC := fun X k w hr hc hm => kind_no_n X 47 k (bs.take 47) w (by rw [List.length_take]; omega) hr (p3.take 47) hc hm c2 c1
    have hS := fun A c w hr => build_m (padF a l) A M c w ll (padF_bad a (by omega)) hr eb
    have hR := fun W => rd_cells W (g := W.heap.size) rfl ((cs.setIfInBounds 0 (.int .u8 x)).setIfInBounds 1 (.int .u8 2)) l (by rw [← el]; simp only [Array.toList_setIfInBounds]; rw [← hcs, made_list]; simp [byteCells, List.map_set])
    have nb : (60 : Int) ≤ (bs.length : Int) := by omega
    have hmin : min (bs.length : Int) 47 = 47 := by omega
    clear p1 p2 p3 p5 p6 p7 p8 c1 c2 eb el ll hcs
    replace hK := hide hK
    replace hC := hide hC
    replace hS := hide hS
    replace hR := hide hR
    go_enter Try.func5, Try.ntmps5
    go_wp2_with fail
    refine (eshown_at _).mono ?_
    rintro e w1 ⟨rfl, k1⟩
    try clear cB0 fB0
    replace B0 := B0.turns k1 (by intro hh; first | exact False.elim hh | ((try simp only at hh); omega) | (simp at hh; omega))
    have cB0 := B0.cell; have fB0 := B0.frozen
    replace k1 := k0.trans k1
    have rE := hide (hR.out w1)
    have lB0 := B0.lt
    go_wp2_with fail
    refine (hS.out _ M _ rE.out).mono ?_
    rintro e w2 ⟨X, k, rfl, o2, k2⟩
    obtain ⟨x1, x2⟩ := o2.caps
    have rX := o2.reads
    clear o2 cB0 fB0 lB0 B0 rE
    have i47 : (47 : Int) ≤ (k : Int) := by omega
    replace k1 := Turns.trans (k1.alloc _) k2
    go_wp2_with fail
    refine (hK.out X k _ rX x1 x2).mono ?_
    rintro e w3 ⟨rfl, k3⟩
    replace rX := hide (rX.still k3)
    go_wp2_with fail
    refine (hC.out X k _ (rX.out.take 47) (by omega) x2).mono ?_
    rintro e w4 ⟨rfl, k4⟩
    go_wp2_with fail
    go_returns
    exact ⟨rfl, Turns.none_below ((k1.trans k3).trans k4)⟩

end Go.Proofs.Ytbiplmlkgbicnaa
