/- The walk of the law 'FrameHeads'. -/
import Derived.Test.YtbiplmlkgbicnaaOpenF
set_option linter.unusedVariables false
namespace Go.Proofs.Ytbiplmlkgbicnaa
open Go.RowKit Go.Proofs.YtbiplmlkgbicnaaW.PrintWords

theorem str_m {w : World} {A : Option Addr} {n c : Nat} {bs : List Int} (h : ReadsB w A bs) (e : bs.length = n) : (convert 22 9 (.slice A n c)).run Try.prog w = .ok (.string (strOfNums bs)) w := by
  subst e
  exact h.string Try.underlying22 Try.underlying5 Try.underlying9
theorem heads_ad {f : Frm} {bs : List Int} (e : built f = bs) : bs.take 6 = f.d.list ∧ (bs.drop 6).take 6 = f.s.list := by
  subst e
  by_cases h : 0 ≤ f.tag
  · rw [built_tag h]; exact ⟨rfl, rfl⟩
  · rw [built_un (by omega)]; exact ⟨rfl, rfl⟩
theorem heads_tag {f : Frm} {bs : List Int} (e : built f = bs) (h : 0 ≤ f.tag) : nth bs 12 = 129 ∧ nth bs 13 = 0 ∧ nth bs 14 = f.tag / 256 ∧ nth bs 15 = f.tag % 256 ∧ nth bs 16 = f.typ / 256 ∧ nth bs 17 = f.typ % 256 ∧ bs.length = max 60 (18 + f.data.length) := by
  subst e
  have := built_length f
  unfold headLen at this
  rw [if_pos h] at this
  rw [this, built_tag h]
  exact ⟨rfl, rfl, rfl, rfl, rfl, rfl, rfl⟩
theorem heads_un {f : Frm} {bs : List Int} (e : built f = bs) (h : f.tag < 0) : nth bs 12 = f.typ / 256 ∧ nth bs 13 = f.typ % 256 ∧ bs.length = max 60 (14 + f.data.length) := by
  subst e
  have := built_length f
  unfold headLen at this
  rw [if_neg (by omega)] at this
  rw [this, built_un h]
  exact ⟨rfl, rfl, rfl⟩

set_option maxHeartbeats 4000000 in
set_option maxRecDepth 100000 in
theorem frameHeads_walk (cs : Array Value) (w : World) {n : Nat} (hf : Fits Try.prog w n 39 cs.toList) :
    Calls Try.prog 8 #[.agg cs] w fun e w' => e = .returned (.bool true) ∧ Below w.heap.size w w' := by
  obtain ⟨f, A, c, hcs, ok, hr, hc, hm, ht, hy⟩ := open_frame hf
  obtain rfl := arr_of hcs
  clear hf hcs ht hy
  have B0 := Blk.new w #[.int .u8 f.d.a0, .int .u8 f.d.a1, .int .u8 f.d.a2, .int .u8 f.d.a3, .int .u8 f.d.a4, .int .u8 f.d.a5, .int .u8 f.s.a0, .int .u8 f.s.a1, .int .u8 f.s.a2, .int .u8 f.s.a3, .int .u8 f.s.a4, .int .u8 f.s.a5, .int .i64 f.tag, .int .i64 f.typ, .slice A f.data.length c] 39
  have k0 : Turns nobody w (w.alloc (.cells #[.int .u8 f.d.a0, .int .u8 f.d.a1, .int .u8 f.d.a2, .int .u8 f.d.a3, .int .u8 f.d.a4, .int .u8 f.d.a5, .int .u8 f.s.a0, .int .u8 f.s.a1, .int .u8 f.s.a2, .int .u8 f.s.a3, .int .u8 f.s.a4, .int .u8 f.s.a5, .int .i64 f.tag, .int .i64 f.typ, .slice A f.data.length c] 39)) := (by repeat' (first | exact Turns.refl _ _ | assumption | exact Or.inl rfl | exact Or.inr (Nat.le_refl _) | apply Turns.alloc | apply Turns.drew | apply Turns.drewN | apply Turns.setCell | (apply Or.inr; simp; done) | (apply Or.inr; simp; omega) | exact fun _ hh => False.elim hh | exact fun _ hh => Or.inl hh | (intro i hi; right; (try simp only at hi); omega) | (intro i hi; right; simp at hi; omega) | refine Turns.step ?_ (by assumption) ?_))
  by_cases hb : bad f = 0
  · obtain ⟨bs, eb⟩ : ∃ bs, built f = bs := ⟨_, rfl⟩
    have p5 : 60 ≤ bs.length := by rw [← eb, built_length]; omega
    obtain ⟨t1, t2, t3, t4, t5, t6⟩ := bad_ok hb
    obtain ⟨hd, hs⟩ := heads_ad eb
    have hT := fun h => heads_tag eb (f := f) h
    have hU := fun h => heads_un eb (f := f) h
    replace hb := hide hb
    replace eb := hide eb
    replace hr := hide hr
    replace hd := hide hd
    replace hs := hide hs
    replace hT := hide hT
    replace hU := hide hU
    clear t3
    go_enter Try.func8, Try.ntmps8
    go_wp2_with fail
    refine (shown_at _).mono ?_
    rintro e w1 ⟨rfl, k1⟩
    try clear cB0 fB0
    replace B0 := B0.turns k1 (by intro hh; first | exact False.elim hh | ((try simp only at hh); omega) | (simp at hh; omega))
    have cB0 := B0.cell; have fB0 := B0.frozen
    replace k1 := k0.trans k1
    clear k0
    go_wp2_with fail
    refine (build_as f A c _ hb.out (hr.out.still k1) eb.out).mono ?_
    rintro e w2 ⟨X, k, rfl, o2, k2⟩
    try clear cB0 fB0
    replace B0 := B0.turns k2 (by intro hh; first | exact False.elim hh | ((try simp only at hh); omega) | (simp at hh; omega))
    have cB0 := B0.cell; have fB0 := B0.frozen
    replace k1 := k1.trans k2
    obtain ⟨x1, x2⟩ := o2.caps
    have x3 := x2
    unfold maxLen at x3
    have rX := o2.reads
    obtain ⟨b, o, rfl, lt, hcell⟩ := rX.nth (by omega)
    have i12 : (12 : Int) ≤ (k : Int) := by omega
    have i6 : (6 : Int) ≤ (k : Int) := by omega
    have nk : ¬ (k = 6) := by omega
    have n60 : ¬ ((bs.length : Int) < 60) := by omega
    have kd : ∀ n, Turns nobody w2 (w2.drewN n) := fun n => (by repeat' (first | exact Turns.refl _ _ | assumption | exact Or.inl rfl | exact Or.inr (Nat.le_refl _) | apply Turns.alloc | apply Turns.drew | apply Turns.drewN | apply Turns.setCell | (apply Or.inr; simp; done) | (apply Or.inr; simp; omega) | exact fun _ hh => False.elim hh | exact fun _ hh => Or.inl hh | (intro i hi; right; (try simp only at hi); omega) | (intro i hi; right; simp at hi; omega) | refine Turns.step ?_ (by assumption) ?_))
    have s1 := fun n => str_m (n := 6) (c := k) ((rX.still (kd n)).take 6) (by rw [List.length_take]; omega)
    have s2 := fun n => str_m (n := 6) (c := k - 6) (((rX.still (kd n)).drop 6).take 6) (by rw [List.length_take, List.length_drop]; omega)
    have s3 := fun n => str_m (n := 6) (c := 6) (ad_reads (a := f.d) (o := 0) (B0.drewN n) (six rfl rfl rfl rfl rfl rfl)) rfl
    have s4 := fun n => str_m (n := 6) (c := 6) (ad_reads (a := f.s) (o := 6) (B0.drewN n) (six rfl rfl rfl rfl rfl rfl)) rfl
    rw [hd.out] at s1
    rw [hs.out] at s2
    clear o2 k2 kd rX
    obtain ⟨Y1, eY1⟩ : ∃ x, f.typ / 256 = x := ⟨_, rfl⟩
    obtain ⟨Y0, eY0⟩ : ∃ x, f.typ % 256 = x := ⟨_, rfl⟩
    obtain ⟨T1, eT1⟩ : ∃ x, f.tag / 256 = x := ⟨_, rfl⟩
    obtain ⟨T0, eT0⟩ : ∃ x, f.tag % 256 = x := ⟨_, rfl⟩
    have y1 : 0 ≤ Y1 ∧ Y1 ≤ 255 := by omega
    have y0 : 0 ≤ Y0 ∧ Y0 ≤ 255 := by omega
    obtain ⟨y11, y12⟩ := y1
    obtain ⟨y01, y02⟩ := y0
    have eY : (Y1 * 256 + Y0 == f.typ) = true := by rw [beq_iff_eq]; omega
    by_cases ht : 0 ≤ f.tag
    · obtain ⟨h12, h13, h14, h15, h16, h17, hL⟩ := hT.out ht
      have z1 : 0 ≤ T1 ∧ T1 ≤ 255 := by omega
      have z0 : 0 ≤ T0 ∧ T0 ≤ 255 := by omega
      obtain ⟨z11, z12⟩ := z1
      obtain ⟨z01, z02⟩ := z0
      have eT : (T1 * 256 + T0 != f.tag) = false := by simp; omega
      have c12 := hcell 12 (by omega)
      have c13 := hcell 13 (by omega)
      have c14 := hcell 14 (by omega)
      have c15 := hcell 15 (by omega)
      have c16 := hcell 16 (by omega)
      have c17 := hcell 17 (by omega)
      rw [h12] at c12
      rw [h13] at c13
      rw [h14, eT1] at c14
      rw [h15, eT0] at c15
      rw [h16, eY1] at c16
      rw [h17, eY0] at c17
      have j12 : (12 : Int) < (bs.length : Int) := by omega
      have j13 : (13 : Int) < (bs.length : Int) := by omega
      have j14 : (14 : Int) < (bs.length : Int) := by omega
      have j15 : (15 : Int) < (bs.length : Int) := by omega
      have j16 : (16 : Int) < (bs.length : Int) := by omega
      have j17 : (17 : Int) < (bs.length : Int) := by omega
      clear hcell h12 h13 h14 h15 h16 h17 eT1 eT0 eY1 eY0
      by_cases h60 : bs.length = 60
      · have e60 : ((bs.length : Int) == 60) = true := by simp; omega
        clear h60 hL
        go_wp2_with fail
        go_quiet (fail)
        go_wp2_with fail
        (go_quiet (fail); go_wp2_with fail; go_quiet (fail))
        go_wp2_with fail
        go_returns
        refine ⟨rfl, Turns.none_below (k1.trans ?_)⟩
        exact (by repeat' (first | exact Turns.refl _ _ | assumption | exact Or.inl rfl | exact Or.inr (Nat.le_refl _) | apply Turns.alloc | apply Turns.drew | apply Turns.drewN | apply Turns.setCell | (apply Or.inr; simp; done) | (apply Or.inr; simp; omega) | exact fun _ hh => False.elim hh | exact fun _ hh => Or.inl hh | (intro i hi; right; (try simp only at hi); omega) | (intro i hi; right; simp at hi; omega) | refine Turns.step ?_ (by assumption) ?_))
      · have e60 : ((bs.length : Int) == 60) = false := by simp; omega
        have eL : ((bs.length : Int) == 18 + (f.data.length : Int)) = true := by simp; omega
        clear h60 hL
        go_wp2_with fail
        go_quiet (fail)
        go_wp2_with fail
        (go_quiet (fail); go_wp2_with fail; go_quiet (fail))
        go_wp2_with fail
        go_returns
        refine ⟨rfl, Turns.none_below (k1.trans ?_)⟩
        exact (by repeat' (first | exact Turns.refl _ _ | assumption | exact Or.inl rfl | exact Or.inr (Nat.le_refl _) | apply Turns.alloc | apply Turns.drew | apply Turns.drewN | apply Turns.setCell | (apply Or.inr; simp; done) | (apply Or.inr; simp; omega) | exact fun _ hh => False.elim hh | exact fun _ hh => Or.inl hh | (intro i hi; right; (try simp only at hi); omega) | (intro i hi; right; simp at hi; omega) | refine Turns.step ?_ (by assumption) ?_))
    · obtain ⟨h12, h13, hL⟩ := hU.out (by omega)
      have c12 := hcell 12 (by omega)
      have c13 := hcell 13 (by omega)
      rw [h12, eY1] at c12
      rw [h13, eY0] at c13
      have j12 : (12 : Int) < (bs.length : Int) := by omega
      have j13 : (13 : Int) < (bs.length : Int) := by omega
      clear hcell h12 h13 eT1 eT0 eY1 eY0
      by_cases h60 : bs.length = 60
      · have e60 : ((bs.length : Int) == 60) = true := by simp; omega
        clear h60 hL
        go_wp2_with fail
        go_quiet (fail)
        go_wp2_with fail
        (go_quiet (fail))
        go_wp2_with fail
        go_returns
        refine ⟨rfl, Turns.none_below (k1.trans ?_)⟩
        exact (by repeat' (first | exact Turns.refl _ _ | assumption | exact Or.inl rfl | exact Or.inr (Nat.le_refl _) | apply Turns.alloc | apply Turns.drew | apply Turns.drewN | apply Turns.setCell | (apply Or.inr; simp; done) | (apply Or.inr; simp; omega) | exact fun _ hh => False.elim hh | exact fun _ hh => Or.inl hh | (intro i hi; right; (try simp only at hi); omega) | (intro i hi; right; simp at hi; omega) | refine Turns.step ?_ (by assumption) ?_))
      · have e60 : ((bs.length : Int) == 60) = false := by simp; omega
        have eL : ((bs.length : Int) == 14 + (f.data.length : Int)) = true := by simp; omega
        clear h60 hL
        go_wp2_with fail
        go_quiet (fail)
        go_wp2_with fail
        (go_quiet (fail))
        go_wp2_with fail
        go_returns
        refine ⟨rfl, Turns.none_below (k1.trans ?_)⟩
        exact (by repeat' (first | exact Turns.refl _ _ | assumption | exact Or.inl rfl | exact Or.inr (Nat.le_refl _) | apply Turns.alloc | apply Turns.drew | apply Turns.drewN | apply Turns.setCell | (apply Or.inr; simp; done) | (apply Or.inr; simp; omega) | exact fun _ hh => False.elim hh | exact fun _ hh => Or.inl hh | (intro i hi; right; (try simp only at hi); omega) | (intro i hi; right; simp at hi; omega) | refine Turns.step ?_ (by assumption) ?_))
  · obtain ⟨er, he⟩ : ∃ er, bad f = er := ⟨_, rfl⟩
    rw [he] at hb
    have hb' : (er == 0) = false := beq_eq_false_iff_ne.2 hb
    have hb2 : (er != 0) = true := bne_iff_ne.2 hb
    replace hb := hide hb
    replace he := hide he
    go_enter Try.func8, Try.ntmps8
    go_wp2_with fail
    refine (shown_at _).mono ?_
    rintro e w1 ⟨rfl, k1⟩
    try clear cB0 fB0
    replace B0 := B0.turns k1 (by intro hh; first | exact False.elim hh | ((try simp only at hh); omega) | (simp at hh; omega))
    have cB0 := B0.cell; have fB0 := B0.frozen
    go_wp2_with fail
    refine (build_bad f A c _ er he.out hb.out (by omega)).mono ?_
    rintro e w2 ⟨rfl, k2⟩
    clear cB0 fB0 B0
    go_wp2_with fail
    go_returns
    exact ⟨rfl, Turns.none_below ((k0.trans k1).trans k2)⟩

end Go.Proofs.Ytbiplmlkgbicnaa
