/- The walk of the law 'EventTold'. -/
import Derived.Test.YtbiplmlkgbicnaaEPads
import Derived.Test.YtbiplmlkgbicnaaPOthers
set_option linter.unusedVariables false
namespace Go.Proofs.Ytbiplmlkgbicnaa
open Go.RowKit Go.Proofs.YtbiplmlkgbicnaaW.PrintWords

theorem xor2 (v : Int) (h : 0 ≤ v) : ∃ z, bits .xor .u8 2 (1 + v % 15) = z ∧ z % 16 ≠ 2 ∧ 0 ≤ z ∧ z ≤ 255 := by
  have c : ∀ n : Fin 15, bits .xor .u8 2 (1 + (n.val : Int)) % 16 ≠ 2 ∧ 0 ≤ bits .xor .u8 2 (1 + (n.val : Int)) ∧ bits .xor .u8 2 (1 + (n.val : Int)) ≤ 255 := by decide +kernel
  have b := c ⟨(v % 15).toNat, by omega⟩
  simp only at b
  rw [Int.toNat_of_nonneg (by omega)] at b
  exact ⟨_, rfl, b⟩
theorem or8 (x : Int) (h : 0 ≤ x ∧ x ≤ 255) : ∃ z, bits .or .u8 x 8 = z ∧ ¬ z % 16 ≤ 3 ∧ 0 ≤ z ∧ z ≤ 255 := by
  have c : ∀ n : Fin 256, ¬ bits .or .u8 (n.val : Int) 8 % 16 ≤ 3 ∧ 0 ≤ bits .or .u8 (n.val : Int) 8 ∧ bits .or .u8 (n.val : Int) 8 ≤ 255 := by decide +kernel
  have b := c ⟨x.toNat, by omega⟩
  simp only at b
  rw [Int.toNat_of_nonneg h.1] at b
  exact ⟨_, rfl, b⟩
def turnF (kind seq : Int) (src : Ad) (i : Nat) (z : Int) : Frm := ⟨⟨0, 0, 0, 0, 0, 0⟩, src, -1, 35063, (evD kind seq).set i z⟩
theorem turn_bad (kind seq : Int) (src : Ad) (i : Nat) (z : Int) : bad (turnF kind seq src i z) = 0 :=
  ok_bad (Int.le_refl _) (by show (-1 : Int) ≤ 65535; decide) (.inr (by show 1536 ≤ (35063 : Int) ∧ (35063 : Int) ≤ 65535 ∧ (35063 : Int) ≠ 33024; decide)) (by show ((evD kind seq).set i z).length ≤ 1500; rw [List.length_set, evD_length]; decide)
theorem ev_un (kind seq : Int) (src : Ad) : nth (built (evF kind seq (-1) src)) 14 = kind ∧ nth (built (evF kind seq (-1) src)) 15 = 2 ∧ (built (evF kind seq (-1) src)).length = 60 ∧
    (∀ z, (built (evF kind seq (-1) src)).set 15 z = built (turnF kind seq src 1 z)) ∧ ∀ z, (built (evF kind seq (-1) src)).set 14 z = built (turnF kind seq src 0 z) := by
  have e : built (evF kind seq (-1) src) = _ := built_un (by show (-1 : Int) < 0; decide)
  have e1 : ∀ i z, built (turnF kind seq src i z) = _ := fun i z => built_un (by show (-1 : Int) < 0; decide)
  refine ⟨by rw [e]; rfl, by rw [e]; rfl, by rw [built_length]; rfl, fun z => ?_, fun z => ?_⟩
  · rw [e, e1]; rfl
  · rw [e, e1]; rfl
theorem turn_no {kind seq : Int} {src : Ad} (hk : 0 ≤ kind ∧ kind ≤ 255) (hs : 0 ≤ seq ∧ seq ≤ 65535) (h : Bytes src.list) {i : Nat} {z : Int} (hz : 0 ≤ z ∧ z ≤ 255) (hn : (i = 1 ∧ z % 16 ≠ 2) ∨ (i = 0 ∧ ¬ z % 16 ≤ 3)) {bs : List Int} (eb : bs = built (turnF kind seq src i z)) :
    Bytes bs ∧ Bytes (parseF bs).data ∧ isEv (parseE bs) (parseF bs) = false := by
  subst eb
  have hb := turn_bad kind seq src i z
  have hd : Bytes ((evD kind seq).set i z) := fun y hy => by
    rcases List.mem_or_eq_of_mem_set hy with h1 | h1
    · exact evD_bytes hk hs y h1
    · exact h1 ▸ hz
  have ok : (turnF kind seq src i z).Ok := ⟨by simp [Bytes, turnF, Ad.list], h, hd⟩
  obtain ⟨e1, e2⟩ := parse_built hb
  have en : (normF (turnF kind seq src i z)).data = (evD kind seq).set i z ++ List.replicate (60 - (14 + ((evD kind seq).set i z).length)) 0 := rfl
  refine ⟨built_bytes ok hb, ?_, ?_⟩
  · rw [e2, en]
    exact hd.append (Bytes.zeros _)
  · rw [e1, e2]
    unfold isEv
    rw [en]
    rcases hn with ⟨rfl, hn⟩ | ⟨rfl, hn⟩
    · have e3 : ∀ l, nth ((evD kind seq).set 1 z ++ l) 1 = z := fun l => rfl
      simp [e3, hn]
    · have e3 : ∀ l, nth ((evD kind seq).set 0 z ++ l) 0 = z := fun l => rfl
      simp [e3, hn]

set_option maxHeartbeats 4000000 in
set_option maxRecDepth 100000 in
theorem eventTold_walk (u q t : Int) (ds : Array Value) (v : Int) (w : World) {n : Nat} (wu : (Lit.int .u8 u).wf = true) (wq : (Lit.int .u16 q).wf = true) (wt : (Lit.int .u16 t).wf = true) (hf : Fits Try.prog w n 27 ds.toList) (wv : (Lit.int .u8 v).wf = true) :
    Calls Try.prog 4 #[.int .u8 u, .int .u16 q, .int .u16 t, .agg ds, .int .u8 v] w fun e w' => e = .returned (.bool true) ∧ Below w.heap.size w w' := by
  obtain ⟨a, ha0, ha⟩ := open_addr hf
  obtain rfl := arr_of ha0
  obtain ⟨q0, q1⟩ := bounds_u16 wq
  obtain ⟨t0, t1⟩ := bounds_u16 wt
  obtain ⟨v0, v1⟩ := bounds_u8 wv
  obtain ⟨x, y, ex, ey, hxy, y3, y0, x0, x255⟩ := and243 u (bounds_u8 wu)
  obtain ⟨z, ez, hz, hz0, hz1⟩ := xor2 v v0
  obtain ⟨r, er, hr, hr0, hr1⟩ := or8 x ⟨x0, x255⟩
  clear wu wq wt wv hf ha0
  have B0 := Blk.new w #[.int .u8 a.a0, .int .u8 a.a1, .int .u8 a.a2, .int .u8 a.a3, .int .u8 a.a4, .int .u8 a.a5] 27
  have k0 : Turns nobody w (w.alloc (.cells #[.int .u8 a.a0, .int .u8 a.a1, .int .u8 a.a2, .int .u8 a.a3, .int .u8 a.a4, .int .u8 a.a5] 27)) := (by repeat' (first | exact Turns.refl _ _ | assumption | exact Or.inl rfl | exact Or.inr (Nat.le_refl _) | apply Turns.alloc | apply Turns.drew | apply Turns.drewN | apply Turns.setCell | (apply Or.inr; simp; done) | (apply Or.inr; simp; omega) | exact fun _ hh => False.elim hh | exact fun _ hh => Or.inl hh | (intro i hi; right; (try simp only at hi); omega) | (intro i hi; right; simp at hi; omega) | refine Turns.step ?_ (by assumption) ?_))
  obtain ⟨u14, u15, u60, us1, us0⟩ := ev_un x q a
  obtain ⟨bs, eb⟩ : ∃ bs, built (evF x q (-1) a) = bs := ⟨_, rfl⟩
  obtain ⟨cs, ec⟩ : ∃ cs, built (evF x q t a) = cs := ⟨_, rfl⟩
  rw [eb] at u14 u15 u60 us1 us0
  obtain ⟨p1, p2, p3, p4, p5, p6, p7, p8⟩ := ev_read (kind := x) (seq := q) (tag := -1) (src := a) ⟨x0, x255⟩ (by omega) ⟨q0, q1⟩ (by decide) (by decide) ha eb
  obtain ⟨r1, r2, r3, r4, r5, r6, r7, r8⟩ := ev_read (kind := x) (seq := q) (tag := t) (src := a) ⟨x0, x255⟩ (by omega) ⟨q0, q1⟩ (by omega) t1 ha ec
  have hKb := fun X k w hr hc hm => kind_yes X k bs w hr p3 hc hm p1 p2 p6 p5
  rw [p7, p8, hxy] at hKb
  have hKc := fun X k w hr hc hm => kind_yes X k cs w hr r3 hc hm r1 r2 r6 r5
  rw [r7, r8, hxy] at hKc
  obtain ⟨m1, m2, m3⟩ := turn_no (i := 1) ⟨x0, x255⟩ ⟨q0, q1⟩ ha ⟨hz0, hz1⟩ (.inl ⟨rfl, hz⟩) (us1 z)
  obtain ⟨n1, n2, n3⟩ := turn_no (i := 0) ⟨x0, x255⟩ ⟨q0, q1⟩ ha ⟨hr0, hr1⟩ (.inr ⟨rfl, hr⟩) (us0 r)
  have hM := fun X k w hr hc hm => kind_no_n X bs.length k (bs.set 15 z) w (by rw [List.length_set]) hr m1 hc hm m2 m3
  have hN := fun X k w hr hc hm => kind_no_n X bs.length k (bs.set 14 r) w (by rw [List.length_set]) hr n1 hc hm n2 n3
  have hSb := fun w => sync_law x q (-1) a w ⟨x0, x255⟩ ⟨q0, q1⟩ (by decide) (by decide) eb
  have hSc := fun w => sync_law x q t a w ⟨x0, x255⟩ ⟨q0, q1⟩ (by omega) t1 ec
  have nb : 60 ≤ bs.length := by omega
  have nc : bs.length ≤ 100 := by omega
  have ni : ¬ ((bs.length : Int) < 60) := by omega
  have i14 : (14 : Int) < (bs.length : Int) := by omega
  have i15 : (15 : Int) < (bs.length : Int) := by omega
  clear p1 p2 p3 p4 p5 p6 p7 p8 r1 r2 r3 r4 r5 r6 r7 r8 m1 m2 m3 n1 n2 n3 us1 us0 eb ec u60 hz hr
  replace u14 := hide u14
  replace u15 := hide u15
  replace hKb := hide hKb
  replace hKc := hide hKc
  replace hM := hide hM
  replace hN := hide hN
  replace hSb := hide hSb
  replace hSc := hide hSc
  go_enter Try.func4, Try.ntmps4
  go_wp2_with fail
  refine (eshown_at _).mono ?_
  rintro e w1 ⟨rfl, k1⟩
  try clear cB0 fB0
  replace B0 := B0.turns k1 (by intro hh; first | exact False.elim hh | ((try simp only at hh); omega) | (simp at hh; omega))
  have cB0 := B0.cell; have fB0 := B0.frozen
  go_wp2_with fail
  refine (hSb.out _).mono ?_
  rintro e w2 ⟨X, k, rfl, o2, k2⟩
  try clear cB0 fB0
  replace B0 := B0.turns k2 (by intro hh; first | exact False.elim hh | ((try simp only at hh); omega) | (simp at hh; omega))
  have cB0 := B0.cell; have fB0 := B0.frozen
  replace k1 := (k0.trans k1).trans k2
  obtain ⟨x1, x2⟩ := o2.caps
  have rX := hide o2.reads
  clear o2 k2
  go_wp2_with fail
  refine (hSc.out _).mono ?_
  rintro e w3 ⟨Y, l, rfl, o3, k3⟩
  obtain ⟨x3, x4⟩ := o3.caps
  have rY := hide o3.reads
  replace rX := hide (rX.out.still k3)
  replace k1 := k1.trans k3
  clear o3 k3 cB0 fB0 B0
  go_wp2_with fail
  refine (hKb.out X k _ rX.out x1 x2).mono ?_
  rintro e w4 ⟨rfl, k4⟩
  replace rX := hide (rX.out.still k4)
  replace rY := hide (rY.out.still k4)
  replace k1 := k1.trans k4
  go_wp2_with fail
  refine (hKc.out Y l _ rY.out x3 x4).mono ?_
  rintro e w6 ⟨rfl, k6⟩
  replace rX := hide (rX.out.still k6)
  replace k1 := k1.trans k6
  clear k4 k6 rY
  go_wp2_with (
    (at_builtin
     refine wpList_own_bytes rfl (.tmp 56) (.tmp 57) (by rfl) (w0 := w6) w6.heap.size _ [] (by rfl) (OwnB.fresh _ (by simp) (Nat.le_refl _)) _ _ _ bs (by rfl) (rX.out.still ((Turns.refl nobody _).alloc _)) rfl (by simp; omega) (by simp) ((Turns.refl nobody _).alloc _) (by simp) ?_
     intro L e5 a5 c5 w5 o5 k5 kk5
     have eL : bs = L := e5.out.symm
     subst eL
     clear e5 kk5
     obtain ⟨y1, y2⟩ := o5.caps
     obtain ⟨g5, rfl, hg, lg, hcell, hfr, hset⟩ := o5.set (by omega)
     have cK := hcell 15 (by omega)
     rw [u15.out] at cK
     have fK := hfr 15
     have rS := hide (hset 15 z (by omega)).reads
     have K5 : Turns nobody w6 (w5.setCell ⟨g5, 15, none⟩ (.int .u8 z)) := k5.setCell (.inr hg) _
     replace K5 := hide K5
     clear hcell hfr hset o5 k5))
  refine (hM.out _ c5 _ rS.out y1 y2).mono ?_
  rintro e w8 ⟨rfl, k8⟩
  replace rX := hide (rX.out.still (K5.out.trans k8))
  replace k1 := (k1.trans K5.out).trans k8
  clear K5 k8 rS cK fK lg hg y1 y2
  go_wp2_with (
    (at_builtin
     refine wpList_own_bytes rfl (.tmp 74) (.tmp 75) (by rfl) (w0 := w8) w8.heap.size _ [] (by rfl) (OwnB.fresh _ (by simp) (Nat.le_refl _)) _ _ _ bs (by rfl) (rX.out.still ((Turns.refl nobody _).alloc _)) rfl (by simp; omega) (by simp) ((Turns.refl nobody _).alloc _) (by simp) ?_
     intro L e5 a5 c5 w5 o5 k5 kk5
     have eL : bs = L := e5.out.symm
     subst eL
     clear e5 kk5
     obtain ⟨y1, y2⟩ := o5.caps
     obtain ⟨g5, rfl, hg, lg, hcell, hfr, hset⟩ := o5.set (by omega)
     have cK := hcell 14 (by omega)
     rw [u14.out] at cK
     have fK := hfr 14
     have rS := hide (hset 14 r (by omega)).reads
     have K5 : Turns nobody w8 (w5.setCell ⟨g5, 14, none⟩ (.int .u8 r)) := k5.setCell (.inr hg) _
     replace K5 := hide K5
     clear hcell hfr hset o5 k5))
  refine (hN.out _ c5 _ rS.out y1 y2).mono ?_
  rintro e w9 ⟨rfl, k9⟩
  go_wp2_with fail
  go_returns
  exact ⟨rfl, Turns.none_below ((k1.trans K5.out).trans k9)⟩

end Go.Proofs.Ytbiplmlkgbicnaa
