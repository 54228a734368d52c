/- The walk of the law 'FrameBack'. -/
import Derived.Test.YtbiplmlkgbicnaaOpenF
set_option linter.unusedVariables false
namespace Go.Proofs.Ytbiplmlkgbicnaa
open Go.RowKit Go.Proofs.YtbiplmlkgbicnaaW.PrintWords

theorem norm_as (f : Frm) (hf : f.Ok) (A : Option Addr) (c : Nat) (w : World) (hb : bad f = 0) (hr : ReadsB w A f.data) {g : Frm} (e : normF f = g) :
    Calls Try.prog 34 #[.agg #[.int .u8 f.d.a0, .int .u8 f.d.a1, .int .u8 f.d.a2, .int .u8 f.d.a3, .int .u8 f.d.a4, .int .u8 f.d.a5, .int .u8 f.s.a0, .int .u8 f.s.a1, .int .u8 f.s.a2, .int .u8 f.s.a3, .int .u8 f.s.a4, .int .u8 f.s.a5, .int .i64 f.tag, .int .i64 f.typ, .slice A f.data.length c]] w fun e w' => ∃ X k, e = .returned (.tuple #[.agg #[.int .u8 g.d.a0, .int .u8 g.d.a1, .int .u8 g.d.a2, .int .u8 g.d.a3, .int .u8 g.d.a4, .int .u8 g.d.a5, .int .u8 g.s.a0, .int .u8 g.s.a1, .int .u8 g.s.a2, .int .u8 g.s.a3, .int .u8 g.s.a4, .int .u8 g.s.a5, .int .i64 g.tag, .int .i64 g.typ, .slice X g.data.length k], .int .i64 0]) ∧ OwnB w' w.heap.size (.slice X g.data.length k) g.data ∧ Turns nobody w w' := by
  subst e
  exact norm_ok f hf A c w hb hr
theorem same_as (f g : Frm) (hf : f.Ok) (hg : g.Ok) (A B : Option Addr) (c d : Nat) (w : World) (hr : ReadsB w A f.data) (hs : ReadsB w B g.data) {r : Bool} (h : decide (f = g) = r) :
    Calls Try.prog 30 #[.agg #[.int .u8 f.d.a0, .int .u8 f.d.a1, .int .u8 f.d.a2, .int .u8 f.d.a3, .int .u8 f.d.a4, .int .u8 f.d.a5, .int .u8 f.s.a0, .int .u8 f.s.a1, .int .u8 f.s.a2, .int .u8 f.s.a3, .int .u8 f.s.a4, .int .u8 f.s.a5, .int .i64 f.tag, .int .i64 f.typ, .slice A f.data.length c], .agg #[.int .u8 g.d.a0, .int .u8 g.d.a1, .int .u8 g.d.a2, .int .u8 g.d.a3, .int .u8 g.d.a4, .int .u8 g.d.a5, .int .u8 g.s.a0, .int .u8 g.s.a1, .int .u8 g.s.a2, .int .u8 g.s.a3, .int .u8 g.s.a4, .int .u8 g.s.a5, .int .i64 g.tag, .int .i64 g.typ, .slice B g.data.length d]] w fun e w' => e = .returned (.bool r) ∧ Turns nobody w w' := h ▸ same_law f g hf hg A B c d w hr hs
theorem str_of {w : World} {A : Option Addr} {c : Nat} {bs : List Int} (h : ReadsB w A bs) : (convert 22 9 (.slice A bs.length c)).run Try.prog w = .ok (.string (strOfNums bs)) w := h.string Try.underlying22 Try.underlying5 Try.underlying9

set_option maxHeartbeats 4000000 in
set_option maxRecDepth 100000 in
theorem frameBack_walk (cs : Array Value) (w : World) {n : Nat} (hf : Fits Try.prog w n 39 cs.toList) :
    Calls Try.prog 11 #[.agg cs] w fun e w' => e = .returned (.bool true) ∧ Below w.heap.size w w' := by
  obtain ⟨f, A, c, hcs, ok, hr, hc, hm, ht, hy⟩ := open_frame hf
  obtain rfl := arr_of hcs
  clear hf hcs ht hy
  have B0 := Blk.new w #[.int .u8 f.d.a0, .int .u8 f.d.a1, .int .u8 f.d.a2, .int .u8 f.d.a3, .int .u8 f.d.a4, .int .u8 f.d.a5, .int .u8 f.s.a0, .int .u8 f.s.a1, .int .u8 f.s.a2, .int .u8 f.s.a3, .int .u8 f.s.a4, .int .u8 f.s.a5, .int .i64 f.tag, .int .i64 f.typ, .slice A f.data.length c] 39
  have k0 : Turns nobody w (w.alloc (.cells #[.int .u8 f.d.a0, .int .u8 f.d.a1, .int .u8 f.d.a2, .int .u8 f.d.a3, .int .u8 f.d.a4, .int .u8 f.d.a5, .int .u8 f.s.a0, .int .u8 f.s.a1, .int .u8 f.s.a2, .int .u8 f.s.a3, .int .u8 f.s.a4, .int .u8 f.s.a5, .int .i64 f.tag, .int .i64 f.typ, .slice A f.data.length c] 39)) := (by repeat' (first | exact Turns.refl _ _ | assumption | exact Or.inl rfl | exact Or.inr (Nat.le_refl _) | apply Turns.alloc | apply Turns.drew | apply Turns.drewN | apply Turns.setCell | (apply Or.inr; simp; done) | (apply Or.inr; simp; omega) | exact fun _ hh => False.elim hh | exact fun _ hh => Or.inl hh | (intro i hi; right; (try simp only at hi); omega) | (intro i hi; right; simp at hi; omega) | refine Turns.step ?_ (by assumption) ?_))
  by_cases hb : bad f = 0
  · obtain ⟨bs, eb⟩ : ∃ bs, built f = bs := ⟨_, rfl⟩
    obtain ⟨g, eg⟩ : ∃ g, normF f = g := ⟨_, rfl⟩
    have p1 : parseE bs = 0 := eb ▸ (parse_built hb).1
    have p2 : parseF bs = g := eb ▸ eg ▸ (parse_built hb).2
    have p3 : Bytes bs := eb ▸ built_bytes ok hb
    have p4 : sizeOf' bs = 0 := eb ▸ size_built hb
    have g1 : bad g = 0 := eg ▸ normF_bad hb
    have g2 : normF g = g := by rw [← eg]; exact normF_norm hb
    have g3 : built g = bs := by rw [← eg, built_norm, eb]
    have g4 : g.Ok := eg ▸ normF_ok ok
    replace hb := hide hb
    replace eb := hide eb
    replace eg := hide eg
    replace p1 := hide p1
    replace p2 := hide p2
    replace p4 := hide p4
    replace g1 := hide g1
    replace g2 := hide g2
    replace g3 := hide g3
    replace hr := hide hr
    go_enter Try.func11, Try.ntmps11
    go_wp2_with fail
    refine (shown_at _).mono ?_
    rintro e w1 ⟨rfl, k1⟩
    try clear cB0 fB0
    replace B0 := B0.turns k1 (by intro hh; first | exact False.elim hh | ((try simp only at hh); omega) | (simp at hh; omega))
    have cB0 := B0.cell; have fB0 := B0.frozen
    replace k1 := k0.trans k1
    clear k0
    go_wp2_with fail
    refine (build_as f A c _ hb.out (hr.out.still k1) eb.out).mono ?_
    rintro e w2 ⟨X, k, rfl, o2, k2⟩
    try clear cB0 fB0
    replace B0 := B0.turns k2 (by intro hh; first | exact False.elim hh | ((try simp only at hh); omega) | (simp at hh; omega))
    have cB0 := B0.cell; have fB0 := B0.frozen
    replace k1 := k1.trans k2
    obtain ⟨x1, x2⟩ := o2.caps
    have rX := hide o2.reads
    clear o2 k2
    go_wp2_with fail
    refine (norm_as f ok A c _ hb.out (hr.out.still k1) eg.out).mono ?_
    rintro e w3 ⟨Y, l, rfl, o3, k3⟩
    replace k1 := k1.trans k3
    have G0 := Blk.new w3 #[.int .u8 g.d.a0, .int .u8 g.d.a1, .int .u8 g.d.a2, .int .u8 g.d.a3, .int .u8 g.d.a4, .int .u8 g.d.a5, .int .u8 g.s.a0, .int .u8 g.s.a1, .int .u8 g.s.a2, .int .u8 g.s.a3, .int .u8 g.s.a4, .int .u8 g.s.a5, .int .i64 g.tag, .int .i64 g.typ, .slice Y g.data.length l] 39
    replace rX := hide (rX.out.still k3)
    have rY := hide o3.reads
    clear o3 cB0 fB0 B0 k3
    have j3 : Turns nobody w3 (w3.alloc (.cells #[.int .u8 g.d.a0, .int .u8 g.d.a1, .int .u8 g.d.a2, .int .u8 g.d.a3, .int .u8 g.d.a4, .int .u8 g.d.a5, .int .u8 g.s.a0, .int .u8 g.s.a1, .int .u8 g.s.a2, .int .u8 g.s.a3, .int .u8 g.s.a4, .int .u8 g.s.a5, .int .i64 g.tag, .int .i64 g.typ, .slice Y g.data.length l] 39)) := (by repeat' (first | exact Turns.refl _ _ | assumption | exact Or.inl rfl | exact Or.inr (Nat.le_refl _) | apply Turns.alloc | apply Turns.drew | apply Turns.drewN | apply Turns.setCell | (apply Or.inr; simp; done) | (apply Or.inr; simp; omega) | exact fun _ hh => False.elim hh | exact fun _ hh => Or.inl hh | (intro i hi; right; (try simp only at hi); omega) | (intro i hi; right; simp at hi; omega) | refine Turns.step ?_ (by assumption) ?_))
    go_wp2_with fail
    refine (parse_as X k bs _ (rX.out.still j3) p3 x1 x2 p1.out p2.out).mono ?_
    rintro e w4 ⟨Z, m, rfl, o4, k4⟩
    as_aux_lemma =>
      replace j3 := j3.trans k4
      replace G0 := G0.turns k4 (by intro hh; first | exact False.elim hh | ((try simp only at hh); omega) | (simp at hh; omega))
      have cG := G0.cell
      have fG := G0.frozen
      have lG := G0.lt
      have P0 := Blk.new w4 #[.int .u8 g.d.a0, .int .u8 g.d.a1, .int .u8 g.d.a2, .int .u8 g.d.a3, .int .u8 g.d.a4, .int .u8 g.d.a5, .int .u8 g.s.a0, .int .u8 g.s.a1, .int .u8 g.s.a2, .int .u8 g.s.a3, .int .u8 g.s.a4, .int .u8 g.s.a5, .int .i64 g.tag, .int .i64 g.typ, .slice Z g.data.length m] 39
      have rZ := hide o4.reads
      clear o4 k4
      have j4 : Turns nobody w4 (w4.alloc (.cells #[.int .u8 g.d.a0, .int .u8 g.d.a1, .int .u8 g.d.a2, .int .u8 g.d.a3, .int .u8 g.d.a4, .int .u8 g.d.a5, .int .u8 g.s.a0, .int .u8 g.s.a1, .int .u8 g.s.a2, .int .u8 g.s.a3, .int .u8 g.s.a4, .int .u8 g.s.a5, .int .i64 g.tag, .int .i64 g.typ, .slice Z g.data.length m] 39)) := (by repeat' (first | exact Turns.refl _ _ | assumption | exact Or.inl rfl | exact Or.inr (Nat.le_refl _) | apply Turns.alloc | apply Turns.drew | apply Turns.drewN | apply Turns.setCell | (apply Or.inr; simp; done) | (apply Or.inr; simp; omega) | exact fun _ hh => False.elim hh | exact fun _ hh => Or.inl hh | (intro i hi; right; (try simp only at hi); omega) | (intro i hi; right; simp at hi; omega) | refine Turns.step ?_ (by assumption) ?_))
      go_wp2_with fail
      refine (norm_as g g4 Y l _ g1.out (rY.out.still (j3.trans j4)) g2.out).mono ?_
      rintro e w5 ⟨U, q, rfl, o5, k5⟩
      as_aux_lemma =>
        replace j4 := j4.trans k5
        replace G0 := (G0.alloc _).turns k5 (by intro hh; first | exact False.elim hh | ((try simp only at hh); omega) | (simp at hh; omega))
        clear cG fG lG
        have cG := G0.cell
        have fG := G0.frozen
        have lG := G0.lt
        replace P0 := P0.turns k5 (by intro hh; first | exact False.elim hh | ((try simp only at hh); omega) | (simp at hh; omega))
        have M0 := Blk.new w5 #[.int .u8 g.d.a0, .int .u8 g.d.a1, .int .u8 g.d.a2, .int .u8 g.d.a3, .int .u8 g.d.a4, .int .u8 g.d.a5, .int .u8 g.s.a0, .int .u8 g.s.a1, .int .u8 g.s.a2, .int .u8 g.s.a3, .int .u8 g.s.a4, .int .u8 g.s.a5, .int .i64 g.tag, .int .i64 g.typ, .slice U g.data.length q] 39
        have rU := hide o5.reads
        clear o5 k5
        have j5 : Turns nobody w5 (w5.alloc (.cells #[.int .u8 g.d.a0, .int .u8 g.d.a1, .int .u8 g.d.a2, .int .u8 g.d.a3, .int .u8 g.d.a4, .int .u8 g.d.a5, .int .u8 g.s.a0, .int .u8 g.s.a1, .int .u8 g.s.a2, .int .u8 g.s.a3, .int .u8 g.s.a4, .int .u8 g.s.a5, .int .i64 g.tag, .int .i64 g.typ, .slice U g.data.length q] 39)) := (by repeat' (first | exact Turns.refl _ _ | assumption | exact Or.inl rfl | exact Or.inr (Nat.le_refl _) | apply Turns.alloc | apply Turns.drew | apply Turns.drewN | apply Turns.setCell | (apply Or.inr; simp; done) | (apply Or.inr; simp; omega) | exact fun _ hh => False.elim hh | exact fun _ hh => Or.inl hh | (intro i hi; right; (try simp only at hi); omega) | (intro i hi; right; simp at hi; omega) | refine Turns.step ?_ (by assumption) ?_))
        go_wp2_with fail
        refine (build_as g Y l _ g1.out (rY.out.still ((j3.trans j4).trans j5)) g3.out).mono ?_
        rintro e w6 ⟨V, v, rfl, o6, k6⟩
        as_aux_lemma =>
          replace j5 := j5.trans k6
          replace G0 := (G0.alloc _).turns k6 (by intro hh; first | exact False.elim hh | ((try simp only at hh); omega) | (simp at hh; omega))
          replace P0 := (P0.alloc _).turns k6 (by intro hh; first | exact False.elim hh | ((try simp only at hh); omega) | (simp at hh; omega))
          replace M0 := M0.turns k6 (by intro hh; first | exact False.elim hh | ((try simp only at hh); omega) | (simp at hh; omega))
          clear cG fG lG
          have cG := G0.cell
          have fG := G0.frozen
          have lG := G0.lt
          have cP := P0.cell
          have fP := P0.frozen
          have lP := P0.lt
          have rV := hide o6.reads
          clear o6 k6
          go_wp2_with fail
          refine (same_as g g g4 g4 Z Y m l _ (rZ.out.still (j4.trans j5)) (rY.out.still ((j3.trans j4).trans j5)) (r := true) (by simp)).mono ?_
          rintro e w7 ⟨rfl, k7⟩
          as_aux_lemma =>
            replace G0 := G0.turns k7 (by intro hh; first | exact False.elim hh | ((try simp only at hh); omega) | (simp at hh; omega))
            replace M0 := M0.turns k7 (by intro hh; first | exact False.elim hh | ((try simp only at hh); omega) | (simp at hh; omega))
            clear cG fG lG cP fP lP P0
            have cG := G0.cell
            have fG := G0.frozen
            have lG := G0.lt
            have cM := M0.cell
            have fM := M0.frozen
            have lM := M0.lt
            replace rV := hide (rV.out.still k7)
            replace j5 := j5.trans k7
            clear k7
            go_wp2_with fail
            refine (same_as g g g4 g4 U Y q l _ (rU.out.still j5) (rY.out.still ((j3.trans j4).trans j5)) (r := true) (by simp)).mono ?_
            rintro e w8 ⟨rfl, k8⟩
            as_aux_lemma =>
              replace j5 := j5.trans k8
              have K := (((k1.trans j3).trans j4).trans j5)
              have sX := str_of (c := k) (rX.out.still ((j3.trans j4).trans j5))
              have sV := str_of (c := v) (rV.out.still k8)
              replace rX := hide (rX.out.still ((j3.trans j4).trans j5))
              clear cG fG lG cM fM lM M0 G0
              go_wp2_with fail
              refine (size_as X k bs _ rX.out (by omega) p4.out).mono ?_
              rintro e w9 ⟨rfl, k9⟩
              as_aux_lemma =>
                go_wp2_with fail
                go_returns
                exact ⟨rfl, Turns.none_below (K.trans k9)⟩
  · obtain ⟨er, he⟩ : ∃ er, bad f = er := ⟨_, rfl⟩
    rw [he] at hb
    have hb' : (er == 0) = false := beq_eq_false_iff_ne.2 hb
    replace hb := hide hb
    replace he := hide he
    go_enter Try.func11, Try.ntmps11
    go_wp2_with fail
    refine (shown_at _).mono ?_
    rintro e w1 ⟨rfl, k1⟩
    try clear cB0 fB0
    replace B0 := B0.turns k1 (by intro hh; first | exact False.elim hh | ((try simp only at hh); omega) | (simp at hh; omega))
    have cB0 := B0.cell; have fB0 := B0.frozen
    go_wp2_with fail
    refine (build_bad f A c _ er he.out hb.out (by omega)).mono ?_
    rintro e w2 ⟨rfl, k2⟩
    try clear cB0 fB0
    replace B0 := B0.turns k2 (by intro hh; first | exact False.elim hh | ((try simp only at hh); omega) | (simp at hh; omega))
    have cB0 := B0.cell; have fB0 := B0.frozen
    go_wp2_with fail
    refine (norm_bad f A c _ er he.out hb.out (by omega)).mono ?_
    rintro e w3 ⟨rfl, k3⟩
    clear cB0 fB0 B0
    go_wp2_with fail
    go_returns
    exact ⟨rfl, Turns.none_below ((((k0.trans k1).trans k2).trans k3).alloc _)⟩

end Go.Proofs.Ytbiplmlkgbicnaa
