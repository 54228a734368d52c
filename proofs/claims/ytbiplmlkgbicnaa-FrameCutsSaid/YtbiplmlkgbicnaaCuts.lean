/- The walk of the law 'FrameCuts'. -/
import Derived.Test.YtbiplmlkgbicnaaOpenF
set_option linter.unusedVariables false
namespace Go.Proofs.Ytbiplmlkgbicnaa
open Go.RowKit Go.Proofs.YtbiplmlkgbicnaaW.PrintWords

theorem make_bytes (n : Nat) (hn : n ≤ 1000000) : ∀ W : World, (Instr.makeSlice 22 (.int .i64 (n : Int)) (.int .i64 (n : Int))).run Try.prog W = .ok (.slice (some ⟨W.heap.size, 0, none⟩) n n) (W.alloc (.cells (madeCells #[.int .u8 0] n) 5)) := by
  intro W
  obtain ⟨i0, hi, hz0, hz1, hz2⟩ := info_parts Try.info5
  have h := run_make (P := Try.prog) W 22 5 i0 (.int .u8 0) Try.underlying22 hi hz0 .i64 .i64 n n (by omega) (Int.le_refl _) (by rw [hz2]; omega) (by omega)
  rw [hz1] at h
  simpa [Value.cells] using h
theorem made_bytes (w : World) (n : Nat) : ReadsB (w.alloc (.cells (madeCells #[.int .u8 0] n) 5)) (some ⟨w.heap.size, 0, none⟩) (List.replicate n 0) := by
  refine .inr ⟨_, _, rfl, fun j u hj => ?_⟩
  rw [Nat.zero_add, (Blk.new w _ 5).cell j]
  have hl : j < n := by
    have := (List.getElem?_eq_some_iff.1 hj).1
    simpa [byteCells] using this
  simp [byteCells, hl] at hj
  subst hj
  simp [madeCells, hl, Nat.mod_one]
theorem parse_n (A : Option Addr) (n c : Nat) (bs : List Int) (w : World) (hn : bs.length = n) (hr : ReadsB w A bs) (hB : Bytes bs) (hc : n ≤ c) (hm : c ≤ maxLen) {er : Int} {f : Frm} (he : parseE bs = er) (hf : parseF bs = f) :
    Calls Try.prog 28 #[.slice A n c] w fun e w' => ∃ X k, e = .returned (.tuple #[.agg #[.int .u8 f.d.a0, .int .u8 f.d.a1, .int .u8 f.d.a2, .int .u8 f.d.a3, .int .u8 f.d.a4, .int .u8 f.d.a5, .int .u8 f.s.a0, .int .u8 f.s.a1, .int .u8 f.s.a2, .int .u8 f.s.a3, .int .u8 f.s.a4, .int .u8 f.s.a5, .int .i64 f.tag, .int .i64 f.typ, .slice X f.data.length k], .int .i64 er]) ∧ OwnB w' w.heap.size (.slice X f.data.length k) f.data ∧ Turns nobody w w' := by
  subst hn
  exact parse_as A c bs w hr hB hc hm he hf
theorem build_n (f : Frm) (A : Option Addr) (n c : Nat) (w : World) (hn : f.data.length = n) (er : Int) (he : bad f = er) (h0 : er ≠ 0) (hm : n ≤ maxLen) :
    Calls Try.prog 26 #[.agg #[.int .u8 f.d.a0, .int .u8 f.d.a1, .int .u8 f.d.a2, .int .u8 f.d.a3, .int .u8 f.d.a4, .int .u8 f.d.a5, .int .u8 f.s.a0, .int .u8 f.s.a1, .int .u8 f.s.a2, .int .u8 f.s.a3, .int .u8 f.s.a4, .int .u8 f.s.a5, .int .i64 f.tag, .int .i64 f.typ, .slice A n c]] w fun e w' => e = .returned (.tuple #[.slice none 0 0, .int .i64 er]) ∧ Turns nobody w w' := by
  subst hn
  exact build_bad f A c w er he h0 hm

def cutF (f : Frm) (M : Nat) : Frm := { f with typ := 2048, data := List.replicate M 0 }
theorem cutF_bad {f : Frm} (hb : bad f = 0) {M : Nat} (hM : 1500 < M) : bad (cutF f M) = 9 := by
  obtain ⟨h1, h2, h3, h4, h5, h6⟩ := bad_ok hb
  have h7 : TypOk 2048 (M : Int) := .inr (by decide)
  unfold bad cutF
  simp only [List.length_replicate]
  rw [if_neg (by rintro (h | h | h); omega; omega; exact h h7), if_pos hM]

set_option maxHeartbeats 4000000 in
set_option maxRecDepth 100000 in
theorem frameCuts_walk (cs : Array Value) (u v : Int) (w : World) {n : Nat} (hf : Fits Try.prog w n 39 cs.toList) (wu : (Lit.int .u8 u).wf = true) (wv : (Lit.int .u16 v).wf = true) :
    Calls Try.prog 9 #[.agg cs, .int .u8 u, .int .u16 v] w fun e w' => e = .returned (.bool true) ∧ Below w.heap.size w w' := by
  obtain ⟨f, A, c, hcs, ok, hr, hc, hm, ht, hy⟩ := open_frame hf
  obtain rfl := arr_of hcs
  obtain ⟨u0, u1⟩ := bounds_u8 wu
  obtain ⟨v0, v1⟩ := bounds_u16 wv
  clear hf hcs ht hy wu wv
  have B0 := Blk.new w #[.int .u8 f.d.a0, .int .u8 f.d.a1, .int .u8 f.d.a2, .int .u8 f.d.a3, .int .u8 f.d.a4, .int .u8 f.d.a5, .int .u8 f.s.a0, .int .u8 f.s.a1, .int .u8 f.s.a2, .int .u8 f.s.a3, .int .u8 f.s.a4, .int .u8 f.s.a5, .int .i64 f.tag, .int .i64 f.typ, .slice A f.data.length c] 39
  have k0 : Turns nobody w (w.alloc (.cells #[.int .u8 f.d.a0, .int .u8 f.d.a1, .int .u8 f.d.a2, .int .u8 f.d.a3, .int .u8 f.d.a4, .int .u8 f.d.a5, .int .u8 f.s.a0, .int .u8 f.s.a1, .int .u8 f.s.a2, .int .u8 f.s.a3, .int .u8 f.s.a4, .int .u8 f.s.a5, .int .i64 f.tag, .int .i64 f.typ, .slice A f.data.length c] 39)) := (by repeat' (first | exact Turns.refl _ _ | assumption | exact Or.inl rfl | exact Or.inr (Nat.le_refl _) | apply Turns.alloc | apply Turns.drew | apply Turns.drewN | apply Turns.setCell | (apply Or.inr; simp; done) | (apply Or.inr; simp; omega) | exact fun _ hh => False.elim hh | exact fun _ hh => Or.inl hh | (intro i hi; right; (try simp only at hi); omega) | (intro i hi; right; simp at hi; omega) | refine Turns.step ?_ (by assumption) ?_))
  by_cases hb : bad f = 0
  · obtain ⟨bs, eb⟩ : ∃ bs, built f = bs := ⟨_, rfl⟩
    have p3 : Bytes bs := eb ▸ built_bytes ok hb
    have p5 : 60 ≤ bs.length := by rw [← eb, built_length]; omega
    have p6 : (18 : Int) ≤ (bs.length : Int) := by omega
    replace hb := hide hb
    replace eb := hide eb
    replace hr := hide hr
    go_enter Try.func9, Try.ntmps9
    go_wp2_with fail
    refine (shown_at _).mono ?_
    rintro e w1 ⟨rfl, k1⟩
    try clear cB0 fB0
    replace B0 := B0.turns k1 (by intro hh; first | exact False.elim hh | ((try simp only at hh); omega) | (simp at hh; omega))
    have cB0 := B0.cell; have fB0 := B0.frozen
    replace k1 := k0.trans k1
    clear k0
    go_wp2_with fail
    refine (build_as f A c _ hb.out (hr.out.still k1) eb.out).mono ?_
    rintro e w2 ⟨X, k, rfl, o2, k2⟩
    try clear cB0 fB0
    replace B0 := B0.turns k2 (by intro hh; first | exact False.elim hh | ((try simp only at hh); omega) | (simp at hh; omega))
    have cB0 := B0.cell; have fB0 := B0.frozen
    replace k1 := k1.trans k2
    obtain ⟨x1, x2⟩ := o2.caps
    have x3 := x2
    unfold maxLen at x3
    have rX := hide o2.reads
    clear o2 k2
    by_cases ht : 0 ≤ f.tag
    · skip
      have hk : 18 = headLen f.tag := by simp [headLen]; omega
      obtain ⟨kN, hkN, ekN⟩ : ∃ kN : Nat, kN < 18 ∧ u % 18 = kN := ⟨(u % 18).toNat, by omega, by omega⟩
      have s1 : parseE (bs.take kN) = 4 := by rw [← eb.out]; exact parse_short hb.out (by omega)
      have s2 : (bs.take kN).length = kN := by rw [List.length_take]; omega
      have i0 : (0 : Int) ≤ (kN : Int) := by omega
      have i1 : (kN : Int) ≤ (k : Int) := by omega
      obtain ⟨M, hM0, hM1, eM⟩ : ∃ M : Nat, 1500 < M ∧ M ≤ 1600 ∧ 1501 + v % 100 = M := ⟨(1501 + v % 100).toNat, by omega, by omega, by omega⟩
      have hmk := hide (make_bytes M (by omega))
      replace s1 := hide s1
      replace s2 := hide s2
      replace hk := hide hk
      go_wp2_with fail
      refine (parse_n X kN k (bs.take kN) _ s2.out (rX.out.take _) (p3.take _) (by omega) x2 s1.out (parseF_err (by rw [s1.out]; decide))).mono ?_
      rintro e w3 ⟨Y, l, rfl, o3, k3⟩
      replace B0 := B0.turns k3 (by intro hh; first | exact False.elim hh | ((try simp only at hh); omega) | (simp at hh; omega))
      clear cB0 fB0
      have cB0 := B0.cell
      have fB0 := B0.frozen
      have lB0 := B0.lt
      have hmk := hmk.out
      go_wp2_with fail
      refine (build_n (cutF f M) _ M M _ (by simp [cutF]) 9 (cutF_bad hb.out hM0) (by decide) (by unfold maxLen; omega)).mono ?_
      rintro e w4 ⟨rfl, k4⟩
      clear cB0 fB0 B0 hmk
      go_wp2_with fail
      go_returns
      refine ⟨rfl, Turns.none_below (Turns.trans ?_ k4)⟩
      have K3 := k1.trans k3
      exact (by repeat' (first | exact Turns.refl _ _ | assumption | exact Or.inl rfl | exact Or.inr (Nat.le_refl _) | apply Turns.alloc | apply Turns.drew | apply Turns.drewN | apply Turns.setCell | (apply Or.inr; simp; done) | (apply Or.inr; simp; omega) | exact fun _ hh => False.elim hh | exact fun _ hh => Or.inl hh | (intro i hi; right; (try simp only at hi); omega) | (intro i hi; right; simp at hi; omega) | refine Turns.step ?_ (by assumption) ?_))
    · skip
      have hk : 14 = headLen f.tag := by simp [headLen]; omega
      obtain ⟨kN, hkN, ekN⟩ : ∃ kN : Nat, kN < 14 ∧ u % 14 = kN := ⟨(u % 14).toNat, by omega, by omega⟩
      have s1 : parseE (bs.take kN) = 4 := by rw [← eb.out]; exact parse_short hb.out (by omega)
      have s2 : (bs.take kN).length = kN := by rw [List.length_take]; omega
      have i0 : (0 : Int) ≤ (kN : Int) := by omega
      have i1 : (kN : Int) ≤ (k : Int) := by omega
      obtain ⟨M, hM0, hM1, eM⟩ : ∃ M : Nat, 1500 < M ∧ M ≤ 1600 ∧ 1501 + v % 100 = M := ⟨(1501 + v % 100).toNat, by omega, by omega, by omega⟩
      have hmk := hide (make_bytes M (by omega))
      replace s1 := hide s1
      replace s2 := hide s2
      replace hk := hide hk
      go_wp2_with fail
      refine (parse_n X kN k (bs.take kN) _ s2.out (rX.out.take _) (p3.take _) (by omega) x2 s1.out (parseF_err (by rw [s1.out]; decide))).mono ?_
      rintro e w3 ⟨Y, l, rfl, o3, k3⟩
      replace B0 := B0.turns k3 (by intro hh; first | exact False.elim hh | ((try simp only at hh); omega) | (simp at hh; omega))
      clear cB0 fB0
      have cB0 := B0.cell
      have fB0 := B0.frozen
      have lB0 := B0.lt
      have hmk := hmk.out
      go_wp2_with fail
      refine (build_n (cutF f M) _ M M _ (by simp [cutF]) 9 (cutF_bad hb.out hM0) (by decide) (by unfold maxLen; omega)).mono ?_
      rintro e w4 ⟨rfl, k4⟩
      clear cB0 fB0 B0 hmk
      go_wp2_with fail
      go_returns
      refine ⟨rfl, Turns.none_below (Turns.trans ?_ k4)⟩
      have K3 := k1.trans k3
      exact (by repeat' (first | exact Turns.refl _ _ | assumption | exact Or.inl rfl | exact Or.inr (Nat.le_refl _) | apply Turns.alloc | apply Turns.drew | apply Turns.drewN | apply Turns.setCell | (apply Or.inr; simp; done) | (apply Or.inr; simp; omega) | exact fun _ hh => False.elim hh | exact fun _ hh => Or.inl hh | (intro i hi; right; (try simp only at hi); omega) | (intro i hi; right; simp at hi; omega) | refine Turns.step ?_ (by assumption) ?_))
  · obtain ⟨er, he⟩ : ∃ er, bad f = er := ⟨_, rfl⟩
    rw [he] at hb
    have hb' : (er == 0) = false := beq_eq_false_iff_ne.2 hb
    have hb2 : (er != 0) = true := bne_iff_ne.2 hb
    replace hb := hide hb
    replace he := hide he
    go_enter Try.func9, Try.ntmps9
    go_wp2_with fail
    refine (shown_at _).mono ?_
    rintro e w1 ⟨rfl, k1⟩
    try clear cB0 fB0
    replace B0 := B0.turns k1 (by intro hh; first | exact False.elim hh | ((try simp only at hh); omega) | (simp at hh; omega))
    have cB0 := B0.cell; have fB0 := B0.frozen
    go_wp2_with fail
    refine (build_bad f A c _ er he.out hb.out (by omega)).mono ?_
    rintro e w2 ⟨rfl, k2⟩
    clear cB0 fB0 B0
    go_wp2_with fail
    go_returns
    exact ⟨rfl, Turns.none_below ((k0.trans k1).trans k2)⟩

end Go.Proofs.Ytbiplmlkgbicnaa
