/- What frame.Build gives. -/
import Derived.Test.YtbiplmlkgbicnaaSmall
set_option linter.unusedVariables false
namespace Go.Proofs.Ytbiplmlkgbicnaa
open Go.RowKit Go.Proofs.YtbiplmlkgbicnaaW.PrintWords

set_option maxHeartbeats 1000000 in
set_option maxRecDepth 100000 in
theorem build_bad (f : Frm) (A : Option Addr) (c : Nat) (w : World) (er : Int) (he : bad f = er) (hn : er ≠ 0) (hm : f.data.length ≤ maxLen) :
    Calls Try.prog 26 #[.agg #[.int .u8 f.d.a0, .int .u8 f.d.a1, .int .u8 f.d.a2, .int .u8 f.d.a3, .int .u8 f.d.a4, .int .u8 f.d.a5, .int .u8 f.s.a0, .int .u8 f.s.a1, .int .u8 f.s.a2, .int .u8 f.s.a3, .int .u8 f.s.a4, .int .u8 f.s.a5, .int .i64 f.tag, .int .i64 f.typ, .slice A f.data.length c]] w fun e w' => e = .returned (.tuple #[.slice none 0 0, .int .i64 er]) ∧ Turns nobody w w' := by
  unfold maxLen at hm
  unfold bad at he
  by_cases h1 : f.tag < -1
  · rw [if_pos (.inl h1)] at he
    subst he
    go_enter Try.func26, Try.ntmps26
    go_wp2
    go_returns
    exact ⟨rfl, (by repeat' (first | exact Turns.refl _ _ | assumption | exact Or.inl rfl | exact Or.inr (Nat.le_refl _) | apply Turns.alloc | apply Turns.drew | apply Turns.drewN | apply Turns.setCell | (apply Or.inr; simp; done) | (apply Or.inr; simp; omega) | exact fun _ hh => False.elim hh | exact fun _ hh => Or.inl hh | (intro i hi; right; (try simp only at hi); omega) | (intro i hi; right; simp at hi; omega) | refine Turns.step ?_ (by assumption) ?_))⟩
  by_cases h2 : 65535 < f.tag
  · rw [if_pos (.inr (.inl h2))] at he
    subst he
    go_enter Try.func26, Try.ntmps26
    go_wp2
    go_returns
    exact ⟨rfl, (by repeat' (first | exact Turns.refl _ _ | assumption | exact Or.inl rfl | exact Or.inr (Nat.le_refl _) | apply Turns.alloc | apply Turns.drew | apply Turns.drewN | apply Turns.setCell | (apply Or.inr; simp; done) | (apply Or.inr; simp; omega) | exact fun _ hh => False.elim hh | exact fun _ hh => Or.inl hh | (intro i hi; right; (try simp only at hi); omega) | (intro i hi; right; simp at hi; omega) | refine Turns.step ?_ (by assumption) ?_))⟩
  by_cases h3 : TypOk f.typ f.data.length
  · rw [if_neg (by rintro (h | h | h); exact h1 h; exact h2 h; exact h h3)] at he
    by_cases h4 : 1500 < f.data.length
    · rw [if_pos h4] at he
      subst he
      replace h3 := hide h3
      have h5 : (1500 : Int) < (f.data.length : Int) := by omega
      have B0 := Blk.new w #[.int .u8 f.d.a0, .int .u8 f.d.a1, .int .u8 f.d.a2, .int .u8 f.d.a3, .int .u8 f.d.a4, .int .u8 f.d.a5, .int .u8 f.s.a0, .int .u8 f.s.a1, .int .u8 f.s.a2, .int .u8 f.s.a3, .int .u8 f.s.a4, .int .u8 f.s.a5, .int .i64 f.tag, .int .i64 f.typ, .slice A f.data.length c] 39
      go_enter Try.func26, Try.ntmps26
      go_wp2_with fail
      refine (typ_true _ _ _ h3.out).mono ?_
      rintro e w1 ⟨rfl, k1⟩
      try clear cB0 fB0
      replace B0 := B0.turns k1 (by intro hh; first | exact False.elim hh | ((try simp only at hh); omega) | (simp at hh; omega))
      have cB0 := B0.cell; have fB0 := B0.frozen
      go_wp2_with fail
      go_returns
      exact ⟨rfl, (by repeat' (first | exact Turns.refl _ _ | assumption | exact Or.inl rfl | exact Or.inr (Nat.le_refl _) | apply Turns.alloc | apply Turns.drew | apply Turns.drewN | apply Turns.setCell | (apply Or.inr; simp; done) | (apply Or.inr; simp; omega) | exact fun _ hh => False.elim hh | exact fun _ hh => Or.inl hh | (intro i hi; right; (try simp only at hi); omega) | (intro i hi; right; simp at hi; omega) | refine Turns.step ?_ (by assumption) ?_))⟩
    · rw [if_neg h4] at he
      exact absurd he.symm hn
  · rw [if_pos (.inr (.inr h3))] at he
    subst he
    replace h3 := hide h3
    go_enter Try.func26, Try.ntmps26
    go_wp2_with fail
    refine (typ_false _ _ _ h3.out).mono ?_
    rintro e w1 ⟨rfl, k1⟩
    go_wp2_with fail
    go_returns
    exact ⟨rfl, (by repeat' (first | exact Turns.refl _ _ | assumption | exact Or.inl rfl | exact Or.inr (Nat.le_refl _) | apply Turns.alloc | apply Turns.drew | apply Turns.drewN | apply Turns.setCell | (apply Or.inr; simp; done) | (apply Or.inr; simp; omega) | exact fun _ hh => False.elim hh | exact fun _ hh => Or.inl hh | (intro i hi; right; (try simp only at hi); omega) | (intro i hi; right; simp at hi; omega) | refine Turns.step ?_ (by assumption) ?_))⟩

theorem ad_reads {w : World} {b o : Nat} {cs : Array Value} {t : TypeId} {a : Ad} (hB : Blk w b cs t) (h : ∀ j u, [Value.int .u8 a.a0, .int .u8 a.a1, .int .u8 a.a2, .int .u8 a.a3, .int .u8 a.a4, .int .u8 a.a5][j]? = some u → cs[o + j]? = some u) : ReadsB w (some ⟨b, o, none⟩) a.list :=
  .inr ⟨b, o, rfl, fun j u hj => (hB.cell _).trans (h j u hj)⟩
theorem six {α : Type} {P : Nat → α → Prop} {a b c d e f : α} (h0 : P 0 a) (h1 : P 1 b) (h2 : P 2 c) (h3 : P 3 d) (h4 : P 4 e) (h5 : P 5 f) : ∀ j u, [a, b, c, d, e, f][j]? = some u → P j u := by
  intro j u hj
  match j, hj with
  | 0, hj => simp at hj; exact hj ▸ h0
  | 1, hj => simp at hj; exact hj ▸ h1
  | 2, hj => simp at hj; exact hj ▸ h2
  | 3, hj => simp at hj; exact hj ▸ h3
  | 4, hj => simp at hj; exact hj ▸ h4
  | 5, hj => simp at hj; exact hj ▸ h5
theorem OwnB.lower {w : World} {base base' : Nat} {v : Value} {bs : List Int} (h : OwnB w base v bs) (hb : base' ≤ base) : OwnB w base' v bs := by
  refine ⟨h.1, ?_⟩
  rcases h.2 with h | ⟨g, cap, cur, h1, h2, h3⟩
  · exact .inl h
  · exact .inr ⟨g, cap, cur, h1, Nat.le_trans hb h2, h3⟩

set_option maxHeartbeats 2000000 in
set_option maxRecDepth 100000 in
theorem build_ok (f : Frm) (A : Option Addr) (c : Nat) (w : World) (hb : bad f = 0) (hr : ReadsB w A f.data) :
    Calls Try.prog 26 #[.agg #[.int .u8 f.d.a0, .int .u8 f.d.a1, .int .u8 f.d.a2, .int .u8 f.d.a3, .int .u8 f.d.a4, .int .u8 f.d.a5, .int .u8 f.s.a0, .int .u8 f.s.a1, .int .u8 f.s.a2, .int .u8 f.s.a3, .int .u8 f.s.a4, .int .u8 f.s.a5, .int .i64 f.tag, .int .i64 f.typ, .slice A f.data.length c]] w fun e w' => ∃ X k, e = .returned (.tuple #[.slice X (built f).length k, .int .i64 0]) ∧ OwnB w' w.heap.size (.slice X (built f).length k) (built f) ∧ Turns nobody w w' := by
  obtain ⟨h1, h2, h3, h4, h5, h6⟩ := bad_ok hb
  replace h3 := hide h3
  replace hb := hide hb
  replace hr := hide hr
  have B0 := Blk.new w #[.int .u8 f.d.a0, .int .u8 f.d.a1, .int .u8 f.d.a2, .int .u8 f.d.a3, .int .u8 f.d.a4, .int .u8 f.d.a5, .int .u8 f.s.a0, .int .u8 f.s.a1, .int .u8 f.s.a2, .int .u8 f.s.a3, .int .u8 f.s.a4, .int .u8 f.s.a5, .int .i64 f.tag, .int .i64 f.typ, .slice A f.data.length c] 39
  have K0 : Turns nobody w (w.alloc (.cells #[.int .u8 f.d.a0, .int .u8 f.d.a1, .int .u8 f.d.a2, .int .u8 f.d.a3, .int .u8 f.d.a4, .int .u8 f.d.a5, .int .u8 f.s.a0, .int .u8 f.s.a1, .int .u8 f.s.a2, .int .u8 f.s.a3, .int .u8 f.s.a4, .int .u8 f.s.a5, .int .i64 f.tag, .int .i64 f.typ, .slice A f.data.length c] 39)) := (Turns.refl _ _).alloc _
  go_enter Try.func26, Try.ntmps26
  go_wp2_with fail
  refine (typ_true _ _ _ h3.out).mono ?_
  rintro e w1 ⟨rfl, k1⟩
  try clear cB0 fB0
  replace B0 := B0.turns k1 (by intro hh; first | exact False.elim hh | ((try simp only at hh); omega) | (simp at hh; omega))
  have cB0 := B0.cell; have fB0 := B0.frozen
  have K1 := K0.trans k1
  have hd : ReadsB w1 (some ⟨w.heap.size, 0, none⟩) f.d.list := ad_reads B0 (six rfl rfl rfl rfl rfl rfl)
  have hs : ReadsB w1 (some ⟨w.heap.size, 6, none⟩) f.s.list := ad_reads B0 (six rfl rfl rfl rfl rfl rfl)
  replace hd := hide hd
  replace hs := hide hs
  have ld : f.d.list.length = 6 := rfl
  have ls : f.s.list.length = 6 := rfl
  replace ld := hide ld
  replace ls := hide ls
  go_upto_region 5 with fail
  go_cut [4] (fun s4 wx => ∃ (L : List Int) (X : Option Addr) (k : Nat), s4 = .slice X L.length k ∧ Hid (L = f.d.list ++ f.s.list) ∧ OwnB wx w1.heap.size (.slice X L.length k) L ∧ Turns nobody w1 wx)
  case first =>
    go_region_held3 (fun _ => True) (trivial) (first
      | (refine step_own_bytes rfl (.tmp 29) (.tmp 31) (by rfl) (w0 := w1) w1.heap.size _ [] (by rfl) (OwnB.empty (Blk.new _ _ _) (by simp)) _ 6 6 f.d.list (by rfl) (hd.out.still (by repeat' (first | exact Turns.refl _ _ | assumption | exact Or.inl rfl | exact Or.inr (Nat.le_refl _) | apply Turns.alloc | apply Turns.drew | apply Turns.drewN | apply Turns.setCell | (apply Or.inr; simp; done) | (apply Or.inr; simp; omega) | exact fun _ hh => False.elim hh | exact fun _ hh => Or.inl hh | (intro i hi; right; (try simp only at hi); omega) | (intro i hi; right; simp at hi; omega) | refine Turns.step ?_ (by assumption) ?_))) rfl (by simp) (by simp) (by repeat' (first | exact Turns.refl _ _ | assumption | exact Or.inl rfl | exact Or.inr (Nat.le_refl _) | apply Turns.alloc | apply Turns.drew | apply Turns.drewN | apply Turns.setCell | (apply Or.inr; simp; done) | (apply Or.inr; simp; omega) | exact fun _ hh => False.elim hh | exact fun _ hh => Or.inl hh | (intro i hi; right; (try simp only at hi); omega) | (intro i hi; right; simp at hi; omega) | refine Turns.step ?_ (by assumption) ?_)) (Nat.le_refl _) ?_; intro L1 e1 a1 c1 w3 o3 k3 _)
      | (refine step_own_bytes rfl (.tmp 32) (.tmp 34) (by rfl) (w0 := w1) w1.heap.size _ L1 (by rfl) o3 _ 6 6 f.s.list (by rfl) (hs.out.still (by repeat' (first | exact Turns.refl _ _ | assumption | exact Or.inl rfl | exact Or.inr (Nat.le_refl _) | apply Turns.alloc | apply Turns.drew | apply Turns.drewN | apply Turns.setCell | (apply Or.inr; simp; done) | (apply Or.inr; simp; omega) | exact fun _ hh => False.elim hh | exact fun _ hh => Or.inl hh | (intro i hi; right; (try simp only at hi); omega) | (intro i hi; right; simp at hi; omega) | refine Turns.step ?_ (by assumption) ?_))) rfl (by rw [e1.out]; simp [Ad.list]) k3.size k3 (Nat.le_refl _) ?_; intro L2 e2 a2 c2 w4 o4 k4 _)
      | fail)
    go_wp2_with fail
    go_meet
    exact ⟨L2, a2, c2, rfl, hide (by rw [e2.out, e1.out]; rfl), o4, k4⟩
  case rest =>
    obtain ⟨L2, X, k, rfl, e2, o2, k2⟩ := hcut
    have B2 := B0.turns k2 (by intro hh; first | exact False.elim hh | ((try simp only at hh); omega) | (simp at hh; omega))
    clear cB0 fB0
    have cB2 := B2.cell; have fB2 := B2.frozen
    have n1 := k1.size
    have n2 := k2.size
    have lX := fun i hi => (o2.lt i hi).2
    have l2 : L2.length ≤ 12 := by rw [e2.out, List.length_append, ld.out, ls.out]; omega
    replace lX := hide lX
    go_upto_if 38 with fail
    go_cut [4] (fun s4 wx => ∃ (L : List Int) (X : Option Addr) (k : Nat), s4 = .slice X L.length k ∧ Hid (L = f.d.list ++ f.s.list ++ tagBytes f.tag) ∧ OwnB wx w1.heap.size (.slice X L.length k) L ∧ Turns nobody w1 wx)
    case first =>
      by_cases ht : 0 ≤ f.tag
      · go_wp2_with fail
        go_region_held3 (fun w' => w'.cell? ⟨w.heap.size, 12, none⟩ = some (.int .i64 f.tag)) ((exact (B0.turns (S := nobody) (by repeat' (first | exact Turns.refl _ _ | assumption | exact Or.inl rfl | exact Or.inr (Nat.le_refl _) | apply Turns.alloc | apply Turns.drew | apply Turns.drewN | apply Turns.setCell | (apply Or.inr; simp; done) | (apply Or.inr; simp; omega) | exact fun _ hh => False.elim hh | exact fun _ hh => Or.inl hh | (intro i hi; right; (try simp only at hi); omega) | (intro i hi; right; simp at hi; omega) | refine Turns.step ?_ (by assumption) ?_)) (by intro hh; first | exact False.elim hh | ((try simp only at hh); omega) | (simp at hh; omega))).cell 12)) (first
          | (go_at_call_of 61 (Value.int .i64 33024); refine (two_law 33024 _ (by decide) (by decide)).mono ?_; rintro e wa ⟨ga, rfl, ra, la, ka⟩; have sa := ka.size)
          | (go_at_call_of 61 (Value.int .i64 f.tag); refine (two_law f.tag _ (by omega) (by omega)).mono ?_; rintro e wb ⟨gb, rfl, rb, lb, kb⟩; have sb := kb.size)
          | (refine step_own_bytes rfl (.tmp 39) (.tmp 40) (by rfl) (w0 := w1) w1.heap.size _ L2 (by rfl) (o2.still (by repeat' (first | exact Turns.refl _ _ | assumption | exact Or.inl rfl | exact Or.inr (Nat.le_refl _) | apply Turns.alloc | apply Turns.drew | apply Turns.drewN | apply Turns.setCell | (apply Or.inr; simp; done) | (apply Or.inr; simp; omega) | exact fun _ hh => False.elim hh | exact fun _ hh => Or.inl hh | (intro i hi; right; (try simp only at hi); omega) | (intro i hi; right; simp at hi; omega) | refine Turns.step ?_ (by assumption) ?_))) _ 2 2 (two 33024) (by rfl) (ra.still (by repeat' (first | exact Turns.refl _ _ | assumption | exact Or.inl rfl | exact Or.inr (Nat.le_refl _) | apply Turns.alloc | apply Turns.drew | apply Turns.drewN | apply Turns.setCell | (apply Or.inr; simp; done) | (apply Or.inr; simp; omega) | exact fun _ hh => False.elim hh | exact fun _ hh => Or.inl hh | (intro i hi; right; (try simp only at hi); omega) | (intro i hi; right; simp at hi; omega) | refine Turns.step ?_ (by assumption) ?_))) rfl (by omega) (by simp at *; omega) (by repeat' (first | exact Turns.refl _ _ | assumption | exact Or.inl rfl | exact Or.inr (Nat.le_refl _) | apply Turns.alloc | apply Turns.drew | apply Turns.drewN | apply Turns.setCell | (apply Or.inr; simp; done) | (apply Or.inr; simp; omega) | exact fun _ hh => False.elim hh | exact fun _ hh => Or.inl hh | (intro i hi; right; (try simp only at hi); omega) | (intro i hi; right; simp at hi; omega) | refine Turns.step ?_ (by assumption) ?_)) (Nat.le_refl _) ?_; intro L5 e5 a5 c5 w5 o5 k5 kk5; have s5 := k5.size)
          | (refine step_own_bytes rfl (.tmp 41) (.tmp 44) (by rfl) (w0 := w1) w1.heap.size _ L5 (by rfl) (o5.still (by repeat' (first | exact Turns.refl _ _ | assumption | exact Or.inl rfl | exact Or.inr (Nat.le_refl _) | apply Turns.alloc | apply Turns.drew | apply Turns.drewN | apply Turns.setCell | (apply Or.inr; simp; done) | (apply Or.inr; simp; omega) | exact fun _ hh => False.elim hh | exact fun _ hh => Or.inl hh | (intro i hi; right; (try simp only at hi); omega) | (intro i hi; right; simp at hi; omega) | refine Turns.step ?_ (by assumption) ?_))) _ 2 2 (two f.tag) (by rfl) (by first | exact rb.still (by repeat' (first | exact Turns.refl _ _ | assumption | exact Or.inl rfl | exact Or.inr (Nat.le_refl _) | apply Turns.alloc | apply Turns.drew | apply Turns.drewN | apply Turns.setCell | (apply Or.inr; simp; done) | (apply Or.inr; simp; omega) | exact fun _ hh => False.elim hh | exact fun _ hh => Or.inl hh | (intro i hi; right; (try simp only at hi); omega) | (intro i hi; right; simp at hi; omega) | refine Turns.step ?_ (by assumption) ?_)) | exact (rb.still (by repeat' (first | exact Turns.refl _ _ | assumption | exact Or.inl rfl | exact Or.inr (Nat.le_refl _) | apply Turns.alloc | apply Turns.drew | apply Turns.drewN | apply Turns.setCell | (apply Or.inr; simp; done) | (apply Or.inr; simp; omega) | exact fun _ hh => False.elim hh | exact fun _ hh => Or.inl hh | (intro i hi; right; (try simp only at hi); omega) | (intro i hi; right; simp at hi; omega) | refine Turns.step ?_ (by assumption) ?_))).turns kk5 (by rintro a ⟨⟩ hh; have := lX.out _ hh; simp at *; omega)) rfl (by rw [e5.out, List.length_append]; simp [two]; omega) (by simp at *; omega) (by repeat' (first | exact Turns.refl _ _ | assumption | exact Or.inl rfl | exact Or.inr (Nat.le_refl _) | apply Turns.alloc | apply Turns.drew | apply Turns.drewN | apply Turns.setCell | (apply Or.inr; simp; done) | (apply Or.inr; simp; omega) | exact fun _ hh => False.elim hh | exact fun _ hh => Or.inl hh | (intro i hi; right; (try simp only at hi); omega) | (intro i hi; right; simp at hi; omega) | refine Turns.step ?_ (by assumption) ?_)) (Nat.le_refl _) ?_; intro L6 e6 a6 c6 w6 o6 k6 kk6)
          | fail)
        all_goals (go_wp2_with fail; go_meet)
        all_goals exact ⟨L6, _, _, rfl, hide (by rw [e6.out, e5.out, e2.out, tagBytes, if_pos ht]; simp [two]), o6, k6⟩
      · go_wp2_with fail
        go_meet
        exact ⟨L2, _, _, rfl, hide (by rw [e2.out, tagBytes, if_neg (by omega), List.append_nil]), o2, k2⟩
    case rest =>
      clear o2 k2 lX B2 cB2 fB2 n2 e2 l2
      obtain ⟨L3, X, k, rfl, e3, o2, k2⟩ := hcut
      have B2 := B0.turns k2 (by intro hh; first | exact False.elim hh | ((try simp only at hh); omega) | (simp at hh; omega))
      have cB2 := B2.cell; have fB2 := B2.frozen
      have n2 := k2.size
      have l3 : L3.length ≤ 16 := by
        have : (tagBytes f.tag).length ≤ 4 := by unfold tagBytes two; split <;> simp
        rw [e3.out, List.length_append, List.length_append, ld.out, ls.out]; omega
      go_wp2_with fail
      go_region_held3 (fun w' => w'.cell? ⟨w.heap.size, 13, none⟩ = some (.int .i64 f.typ) ∧ w'.cell? ⟨w.heap.size, 14, none⟩ = some (.slice A f.data.length c)) ((exact ⟨(B0.turns (S := nobody) (by repeat' (first | exact Turns.refl _ _ | assumption | exact Or.inl rfl | exact Or.inr (Nat.le_refl _) | apply Turns.alloc | apply Turns.drew | apply Turns.drewN | apply Turns.setCell | (apply Or.inr; simp; done) | (apply Or.inr; simp; omega) | exact fun _ hh => False.elim hh | exact fun _ hh => Or.inl hh | (intro i hi; right; (try simp only at hi); omega) | (intro i hi; right; simp at hi; omega) | refine Turns.step ?_ (by assumption) ?_)) (by intro hh; first | exact False.elim hh | ((try simp only at hh); omega) | (simp at hh; omega))).cell 13, (B0.turns (S := nobody) (by repeat' (first | exact Turns.refl _ _ | assumption | exact Or.inl rfl | exact Or.inr (Nat.le_refl _) | apply Turns.alloc | apply Turns.drew | apply Turns.drewN | apply Turns.setCell | (apply Or.inr; simp; done) | (apply Or.inr; simp; omega) | exact fun _ hh => False.elim hh | exact fun _ hh => Or.inl hh | (intro i hi; right; (try simp only at hi); omega) | (intro i hi; right; simp at hi; omega) | refine Turns.step ?_ (by assumption) ?_)) (by intro hh; first | exact False.elim hh | ((try simp only at hh); omega) | (simp at hh; omega))).cell 14⟩)) (first
        | (go_at_call_of 61 (Value.int .i64 f.typ); refine (two_law f.typ _ (by omega) (by omega)).mono ?_; rintro e wa ⟨ga, rfl, ra, la, ka⟩; have sa := ka.size)
        | (refine step_own_bytes rfl (.tmp 46) (.tmp 49) (by rfl) (w0 := w1) w1.heap.size _ L3 (by rfl) (o2.still (by repeat' (first | exact Turns.refl _ _ | assumption | exact Or.inl rfl | exact Or.inr (Nat.le_refl _) | apply Turns.alloc | apply Turns.drew | apply Turns.drewN | apply Turns.setCell | (apply Or.inr; simp; done) | (apply Or.inr; simp; omega) | exact fun _ hh => False.elim hh | exact fun _ hh => Or.inl hh | (intro i hi; right; (try simp only at hi); omega) | (intro i hi; right; simp at hi; omega) | refine Turns.step ?_ (by assumption) ?_))) _ 2 2 (two f.typ) (by rfl) (ra.still (by repeat' (first | exact Turns.refl _ _ | assumption | exact Or.inl rfl | exact Or.inr (Nat.le_refl _) | apply Turns.alloc | apply Turns.drew | apply Turns.drewN | apply Turns.setCell | (apply Or.inr; simp; done) | (apply Or.inr; simp; omega) | exact fun _ hh => False.elim hh | exact fun _ hh => Or.inl hh | (intro i hi; right; (try simp only at hi); omega) | (intro i hi; right; simp at hi; omega) | refine Turns.step ?_ (by assumption) ?_))) rfl (by omega) (by simp at *; omega) (by repeat' (first | exact Turns.refl _ _ | assumption | exact Or.inl rfl | exact Or.inr (Nat.le_refl _) | apply Turns.alloc | apply Turns.drew | apply Turns.drewN | apply Turns.setCell | (apply Or.inr; simp; done) | (apply Or.inr; simp; omega) | exact fun _ hh => False.elim hh | exact fun _ hh => Or.inl hh | (intro i hi; right; (try simp only at hi); omega) | (intro i hi; right; simp at hi; omega) | refine Turns.step ?_ (by assumption) ?_)) (Nat.le_refl _) ?_; intro L5 e5 a5 c5 w5 o5 k5 kk5; have s5 := k5.size)
        | (refine step_own_bytes rfl (.tmp 50) (.tmp 52) (by rfl) (w0 := w1) w1.heap.size _ L5 (by rfl) o5 _ f.data.length c f.data (by rfl) (hr.out.still ((K0.trans k1).trans k5)) rfl (by rw [e5.out, List.length_append]; simp [two]; omega) s5 k5 (Nat.le_refl _) ?_; intro L e6 a6 c6 w6 o6 k6 kk6)
        | fail)
      have hL : built f = L ++ List.replicate (60 - L.length) 0 := by
        rw [e6.out, e5.out, e3.out]; rfl
      have hn : L.length ≤ 2000 := by
        rw [e6.out, e5.out, List.length_append, List.length_append]; simp [two]; omega
      replace hL := hide hL
      clear o5 o2 cB2 fB2 kk5 kk6 ra
      have s6 := k6.size
      by_cases h60 : L.length < 60
      · have e60 : (60 : Int) - (L.length : Int) = ((60 - L.length : Nat) : Int) := by omega
        replace e60 := hide e60
        go_wp2_with (at_builtin; refine wpList_own_zeros rfl (.tmp 59) (.tmp 60) (by rfl) (w0 := w1) w1.heap.size _ L (by rfl) o6 _ (by rfl) (60 - L.length) e60.out (by omega) s6 k6 (Nat.le_refl _) ?_; intro L7 e7 a7 c7 w7 o7 k7)
        go_returns
        have e8 : L7 = built f := by rw [hL.out, e7.out]
        subst e8
        exact ⟨_, _, rfl, o7.lower (by simp at n1; omega), K1.trans k7⟩
      · have e0 : 60 - L.length = 0 := by omega
        have e8 : L = built f := by rw [hL.out, e0]; simp
        replace e8 := hide e8
        clear e0
        go_wp2_with fail
        go_returns
        have e9 := e8.out
        subst e9
        exact ⟨_, _, rfl, o6.lower (by simp at n1; omega), K1.trans k6⟩

end Go.Proofs.Ytbiplmlkgbicnaa
