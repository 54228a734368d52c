/- What the frames' functions give: Parse, Size, Norm, Same. -/
import Derived.Test.YtbiplmlkgbicnaaParse
import Derived.Stop.BytesEq
import Derived.Lib.Bytes
set_option linter.unusedVariables false
namespace Go.Proofs.Ytbiplmlkgbicnaa
open Go.RowKit Go.Proofs.YtbiplmlkgbicnaaW.PrintWords

theorem OwnB.caps {w : World} {base n c : Nat} {A : Option Addr} {bs : List Int} (h : OwnB w base (.slice A n c) bs) : bs.length ≤ c ∧ c ≤ maxLen := by
  obtain ⟨A', c', h1, h2, h3⟩ := h.form
  injection h1 with _ _ h1
  rw [h1]
  exact ⟨h2, h3⟩
theorem parse_law (A : Option Addr) (c : Nat) (bs : List Int) (w : World) (hr : ReadsB w A bs) (hB : Bytes bs) (hc : bs.length ≤ c) (hm : c ≤ maxLen) :
    Calls Try.prog 28 #[.slice A bs.length c] w fun e w' => ∃ X k, e = .returned (.tuple #[.agg #[.int .u8 (parseF bs).d.a0, .int .u8 (parseF bs).d.a1, .int .u8 (parseF bs).d.a2, .int .u8 (parseF bs).d.a3, .int .u8 (parseF bs).d.a4, .int .u8 (parseF bs).d.a5, .int .u8 (parseF bs).s.a0, .int .u8 (parseF bs).s.a1, .int .u8 (parseF bs).s.a2, .int .u8 (parseF bs).s.a3, .int .u8 (parseF bs).s.a4, .int .u8 (parseF bs).s.a5, .int .i64 (parseF bs).tag, .int .i64 (parseF bs).typ, .slice X (parseF bs).data.length k], .int .i64 (parseE bs)]) ∧ OwnB w' w.heap.size (.slice X (parseF bs).data.length k) (parseF bs).data ∧ Turns nobody w w' := by
  by_cases h : bs.length < atOf bs + 2
  · have he : parseE bs = 4 := by unfold parseE; rw [if_pos h]
    rw [parseF_err (by rw [he]; decide), he]
    exact (parse_short_law A c bs w hr (by omega) h).mono (by rintro e w' ⟨rfl, k⟩; exact ⟨none, 0, rfl, OwnB.nil_slice _ _, k⟩)
  · have h14 : 14 ≤ bs.length := by unfold atOf at h; split at h <;> omega
    obtain ⟨b, o, rfl, hlt, _⟩ := hr.nth (by omega)
    cases ht : tagged bs with
    | true =>
      have h18 : 18 ≤ bs.length := by simp [atOf, ht] at h; omega
      exact parse_tag_law b o c bs w hr hB hlt hc hm ht h18 rfl
    | false => exact parse_un_law b o c bs w hr hB hlt hc hm ht h14 rfl
theorem parse_as (A : Option Addr) (c : Nat) (bs : List Int) (w : World) (hr : ReadsB w A bs) (hB : Bytes bs) (hc : bs.length ≤ c) (hm : c ≤ maxLen) {er : Int} {f : Frm} (he : parseE bs = er) (hf : parseF bs = f) :
    Calls Try.prog 28 #[.slice A bs.length c] w fun e w' => ∃ X k, e = .returned (.tuple #[.agg #[.int .u8 f.d.a0, .int .u8 f.d.a1, .int .u8 f.d.a2, .int .u8 f.d.a3, .int .u8 f.d.a4, .int .u8 f.d.a5, .int .u8 f.s.a0, .int .u8 f.s.a1, .int .u8 f.s.a2, .int .u8 f.s.a3, .int .u8 f.s.a4, .int .u8 f.s.a5, .int .i64 f.tag, .int .i64 f.typ, .slice X f.data.length k], .int .i64 er]) ∧ OwnB w' w.heap.size (.slice X f.data.length k) f.data ∧ Turns nobody w w' := by
  subst he hf
  exact parse_law A c bs w hr hB hc hm
theorem build_as (f : Frm) (A : Option Addr) (c : Nat) (w : World) (hb : bad f = 0) (hr : ReadsB w A f.data) {bs : List Int} (e : built f = bs) :
    Calls Try.prog 26 #[.agg #[.int .u8 f.d.a0, .int .u8 f.d.a1, .int .u8 f.d.a2, .int .u8 f.d.a3, .int .u8 f.d.a4, .int .u8 f.d.a5, .int .u8 f.s.a0, .int .u8 f.s.a1, .int .u8 f.s.a2, .int .u8 f.s.a3, .int .u8 f.s.a4, .int .u8 f.s.a5, .int .i64 f.tag, .int .i64 f.typ, .slice A f.data.length c]] w fun e w' => ∃ X k, e = .returned (.tuple #[.slice X bs.length k, .int .i64 0]) ∧ OwnB w' w.heap.size (.slice X bs.length k) bs ∧ Turns nobody w w' := by
  subst e
  exact build_ok f A c w hb hr

set_option maxHeartbeats 400000 in
theorem size_law (A : Option Addr) (c : Nat) (bs : List Int) (w : World) (h : ReadsB w A bs) (hm : bs.length ≤ maxLen) : Calls Try.prog 31 #[.slice A bs.length c] w fun e w' => e = .returned (.int .i64 (sizeOf' bs)) ∧ Turns nobody w w' := by
  have hm' := hm
  unfold maxLen at hm'
  replace h := hide h
  cases ht : tagged bs with
  | true =>
    have es : sizeOf' bs = if bs.length < 60 then -1 else if 1518 < bs.length then 1 else 0 := by unfold sizeOf'; rw [ht]; rfl
    rw [es]
    replace ht := hide ht
    by_cases h1 : bs.length < 60
    · rw [if_pos h1]
      clear es
      go_enter Try.func31, Try.ntmps31
      go_wp2_with fail
      refine (tagged_as A c bs _ h.out hm ht.out).mono ?_
      rintro e w1 ⟨rfl, k1⟩
      go_wp2_with fail
      go_returns
      exact ⟨rfl, (by repeat' (first | exact Turns.refl _ _ | assumption | exact Or.inl rfl | exact Or.inr (Nat.le_refl _) | apply Turns.alloc | apply Turns.drew | apply Turns.drewN | apply Turns.setCell | (apply Or.inr; simp; done) | (apply Or.inr; simp; omega) | exact fun _ hh => False.elim hh | exact fun _ hh => Or.inl hh | (intro i hi; right; (try simp only at hi); omega) | (intro i hi; right; simp at hi; omega) | refine Turns.step ?_ (by assumption) ?_))⟩
    · rw [if_neg h1]
      by_cases h2 : 1518 < bs.length
      · rw [if_pos h2]
        clear es
        go_enter Try.func31, Try.ntmps31
        go_wp2_with fail
        refine (tagged_as A c bs _ h.out hm ht.out).mono ?_
        rintro e w1 ⟨rfl, k1⟩
        go_wp2_with fail
        go_returns
        exact ⟨rfl, (by repeat' (first | exact Turns.refl _ _ | assumption | exact Or.inl rfl | exact Or.inr (Nat.le_refl _) | apply Turns.alloc | apply Turns.drew | apply Turns.drewN | apply Turns.setCell | (apply Or.inr; simp; done) | (apply Or.inr; simp; omega) | exact fun _ hh => False.elim hh | exact fun _ hh => Or.inl hh | (intro i hi; right; (try simp only at hi); omega) | (intro i hi; right; simp at hi; omega) | refine Turns.step ?_ (by assumption) ?_))⟩
      · rw [if_neg h2]
        clear es
        go_enter Try.func31, Try.ntmps31
        go_wp2_with fail
        refine (tagged_as A c bs _ h.out hm ht.out).mono ?_
        rintro e w1 ⟨rfl, k1⟩
        go_wp2_with fail
        go_returns
        exact ⟨rfl, (by repeat' (first | exact Turns.refl _ _ | assumption | exact Or.inl rfl | exact Or.inr (Nat.le_refl _) | apply Turns.alloc | apply Turns.drew | apply Turns.drewN | apply Turns.setCell | (apply Or.inr; simp; done) | (apply Or.inr; simp; omega) | exact fun _ hh => False.elim hh | exact fun _ hh => Or.inl hh | (intro i hi; right; (try simp only at hi); omega) | (intro i hi; right; simp at hi; omega) | refine Turns.step ?_ (by assumption) ?_))⟩
  | false =>
    have es : sizeOf' bs = if bs.length < 60 then -1 else if 1514 < bs.length then 1 else 0 := by unfold sizeOf'; rw [ht]; rfl
    rw [es]
    replace ht := hide ht
    by_cases h1 : bs.length < 60
    · rw [if_pos h1]
      clear es
      go_enter Try.func31, Try.ntmps31
      go_wp2_with fail
      refine (tagged_as A c bs _ h.out hm ht.out).mono ?_
      rintro e w1 ⟨rfl, k1⟩
      go_wp2_with fail
      go_returns
      exact ⟨rfl, (by repeat' (first | exact Turns.refl _ _ | assumption | exact Or.inl rfl | exact Or.inr (Nat.le_refl _) | apply Turns.alloc | apply Turns.drew | apply Turns.drewN | apply Turns.setCell | (apply Or.inr; simp; done) | (apply Or.inr; simp; omega) | exact fun _ hh => False.elim hh | exact fun _ hh => Or.inl hh | (intro i hi; right; (try simp only at hi); omega) | (intro i hi; right; simp at hi; omega) | refine Turns.step ?_ (by assumption) ?_))⟩
    · rw [if_neg h1]
      by_cases h2 : 1514 < bs.length
      · rw [if_pos h2]
        clear es
        go_enter Try.func31, Try.ntmps31
        go_wp2_with fail
        refine (tagged_as A c bs _ h.out hm ht.out).mono ?_
        rintro e w1 ⟨rfl, k1⟩
        go_wp2_with fail
        go_returns
        exact ⟨rfl, (by repeat' (first | exact Turns.refl _ _ | assumption | exact Or.inl rfl | exact Or.inr (Nat.le_refl _) | apply Turns.alloc | apply Turns.drew | apply Turns.drewN | apply Turns.setCell | (apply Or.inr; simp; done) | (apply Or.inr; simp; omega) | exact fun _ hh => False.elim hh | exact fun _ hh => Or.inl hh | (intro i hi; right; (try simp only at hi); omega) | (intro i hi; right; simp at hi; omega) | refine Turns.step ?_ (by assumption) ?_))⟩
      · rw [if_neg h2]
        clear es
        go_enter Try.func31, Try.ntmps31
        go_wp2_with fail
        refine (tagged_as A c bs _ h.out hm ht.out).mono ?_
        rintro e w1 ⟨rfl, k1⟩
        go_wp2_with fail
        go_returns
        exact ⟨rfl, (by repeat' (first | exact Turns.refl _ _ | assumption | exact Or.inl rfl | exact Or.inr (Nat.le_refl _) | apply Turns.alloc | apply Turns.drew | apply Turns.drewN | apply Turns.setCell | (apply Or.inr; simp; done) | (apply Or.inr; simp; omega) | exact fun _ hh => False.elim hh | exact fun _ hh => Or.inl hh | (intro i hi; right; (try simp only at hi); omega) | (intro i hi; right; simp at hi; omega) | refine Turns.step ?_ (by assumption) ?_))⟩
theorem size_as (A : Option Addr) (c : Nat) (bs : List Int) (w : World) (h : ReadsB w A bs) (hm : bs.length ≤ maxLen) {s : Int} (hs : sizeOf' bs = s) : Calls Try.prog 31 #[.slice A bs.length c] w fun e w' => e = .returned (.int .i64 s) ∧ Turns nobody w w' := hs ▸ size_law A c bs w h hm

set_option maxHeartbeats 1000000 in
set_option maxRecDepth 100000 in
theorem norm_bad (f : Frm) (A : Option Addr) (c : Nat) (w : World) (er : Int) (he : bad f = er) (hn : er ≠ 0) (hm : f.data.length ≤ maxLen) :
    Calls Try.prog 34 #[.agg #[.int .u8 f.d.a0, .int .u8 f.d.a1, .int .u8 f.d.a2, .int .u8 f.d.a3, .int .u8 f.d.a4, .int .u8 f.d.a5, .int .u8 f.s.a0, .int .u8 f.s.a1, .int .u8 f.s.a2, .int .u8 f.s.a3, .int .u8 f.s.a4, .int .u8 f.s.a5, .int .i64 f.tag, .int .i64 f.typ, .slice A f.data.length c]] w fun e w' => e = .returned (.tuple #[.agg #[.int .u8 0, .int .u8 0, .int .u8 0, .int .u8 0, .int .u8 0, .int .u8 0, .int .u8 0, .int .u8 0, .int .u8 0, .int .u8 0, .int .u8 0, .int .u8 0, .int .i64 0, .int .i64 0, .slice none 0 0], .int .i64 er]) ∧ Turns nobody w w' := by
  obtain ⟨B0, B1⟩ := boxes2 w #[.int .u8 f.d.a0, .int .u8 f.d.a1, .int .u8 f.d.a2, .int .u8 f.d.a3, .int .u8 f.d.a4, .int .u8 f.d.a5, .int .u8 f.s.a0, .int .u8 f.s.a1, .int .u8 f.s.a2, .int .u8 f.s.a3, .int .u8 f.s.a4, .int .u8 f.s.a5, .int .i64 f.tag, .int .i64 f.typ, .slice A f.data.length c] #[.int .u8 0, .int .u8 0, .int .u8 0, .int .u8 0, .int .u8 0, .int .u8 0, .int .u8 0, .int .u8 0, .int .u8 0, .int .u8 0, .int .u8 0, .int .u8 0, .int .i64 0, .int .i64 0, .slice none 0 0] 39 39
  have k0 : Turns nobody w ((w.alloc (.cells #[.int .u8 f.d.a0, .int .u8 f.d.a1, .int .u8 f.d.a2, .int .u8 f.d.a3, .int .u8 f.d.a4, .int .u8 f.d.a5, .int .u8 f.s.a0, .int .u8 f.s.a1, .int .u8 f.s.a2, .int .u8 f.s.a3, .int .u8 f.s.a4, .int .u8 f.s.a5, .int .i64 f.tag, .int .i64 f.typ, .slice A f.data.length c] 39)).alloc (.cells #[.int .u8 0, .int .u8 0, .int .u8 0, .int .u8 0, .int .u8 0, .int .u8 0, .int .u8 0, .int .u8 0, .int .u8 0, .int .u8 0, .int .u8 0, .int .u8 0, .int .i64 0, .int .i64 0, .slice none 0 0] 39)) := (by repeat' (first | exact Turns.refl _ _ | assumption | exact Or.inl rfl | exact Or.inr (Nat.le_refl _) | apply Turns.alloc | apply Turns.drew | apply Turns.drewN | apply Turns.setCell | (apply Or.inr; simp; done) | (apply Or.inr; simp; omega) | exact fun _ hh => False.elim hh | exact fun _ hh => Or.inl hh | (intro i hi; right; (try simp only at hi); omega) | (intro i hi; right; simp at hi; omega) | refine Turns.step ?_ (by assumption) ?_))
  have hn' : (er == 0) = false := beq_eq_false_iff_ne.2 hn
  replace hn := hide hn
  replace he := hide he
  go_enter Try.func34, Try.ntmps34
  go_wp2_with fail
  refine (build_bad f A c _ er he.out hn.out hm).mono ?_
  rintro e w1 ⟨rfl, k1⟩
  replace B1 := B1.turns k1 (by intro hh; first | exact False.elim hh | ((try simp only at hh); omega) | (simp at hh; omega))
  have n1 := k1.size
  replace k1 := k0.trans k1
  clear B0
  go_wp2_with (refine wpList_store_whole rfl 39 (.tmp 2) (.tmp 13) (by rfl) (w.heap.size + 1) _ #[.int .u8 0, .int .u8 0, .int .u8 0, .int .u8 0, .int .u8 0, .int .u8 0, .int .u8 0, .int .u8 0, .int .u8 0, .int .u8 0, .int .u8 0, .int .u8 0, .int .i64 0, .int .i64 0, .slice none 0 0] 39 (by rfl) (by rfl) B1 rfl Try.info39 (by simp [Value.oneCell']) ?_; intro w2 h2 k2)
  refine bodyPost_ret (ret_frame rfl _ _ (w.heap.size + 1) #[.int .u8 0, .int .u8 0, .int .u8 0, .int .u8 0, .int .u8 0, .int .u8 0, .int .u8 0, .int .u8 0, .int .u8 0, .int .u8 0, .int .u8 0, .int .u8 0, .int .i64 0, .int .i64 0, .slice none 0 0] rfl h2 rfl) rfl ?_
  exact ⟨rfl, (by repeat' (first | exact Turns.refl _ _ | assumption | exact Or.inl rfl | exact Or.inr (Nat.le_refl _) | apply Turns.alloc | apply Turns.drew | apply Turns.drewN | apply Turns.setCell | (apply Or.inr; simp; done) | (apply Or.inr; simp; omega) | exact fun _ hh => False.elim hh | exact fun _ hh => Or.inl hh | (intro i hi; right; (try simp only at hi); omega) | (intro i hi; right; simp at hi; omega) | refine Turns.step ?_ (by assumption) ?_))⟩
set_option maxHeartbeats 1000000 in
set_option maxRecDepth 100000 in
theorem norm_ok (f : Frm) (hf : f.Ok) (A : Option Addr) (c : Nat) (w : World) (hb : bad f = 0) (hr : ReadsB w A f.data) :
    Calls Try.prog 34 #[.agg #[.int .u8 f.d.a0, .int .u8 f.d.a1, .int .u8 f.d.a2, .int .u8 f.d.a3, .int .u8 f.d.a4, .int .u8 f.d.a5, .int .u8 f.s.a0, .int .u8 f.s.a1, .int .u8 f.s.a2, .int .u8 f.s.a3, .int .u8 f.s.a4, .int .u8 f.s.a5, .int .i64 f.tag, .int .i64 f.typ, .slice A f.data.length c]] w fun e w' => ∃ X k, e = .returned (.tuple #[.agg #[.int .u8 (normF f).d.a0, .int .u8 (normF f).d.a1, .int .u8 (normF f).d.a2, .int .u8 (normF f).d.a3, .int .u8 (normF f).d.a4, .int .u8 (normF f).d.a5, .int .u8 (normF f).s.a0, .int .u8 (normF f).s.a1, .int .u8 (normF f).s.a2, .int .u8 (normF f).s.a3, .int .u8 (normF f).s.a4, .int .u8 (normF f).s.a5, .int .i64 (normF f).tag, .int .i64 (normF f).typ, .slice X (normF f).data.length k], .int .i64 0]) ∧ OwnB w' w.heap.size (.slice X (normF f).data.length k) (normF f).data ∧ Turns nobody w w' := by
  obtain ⟨B0, B1⟩ := boxes2 w #[.int .u8 f.d.a0, .int .u8 f.d.a1, .int .u8 f.d.a2, .int .u8 f.d.a3, .int .u8 f.d.a4, .int .u8 f.d.a5, .int .u8 f.s.a0, .int .u8 f.s.a1, .int .u8 f.s.a2, .int .u8 f.s.a3, .int .u8 f.s.a4, .int .u8 f.s.a5, .int .i64 f.tag, .int .i64 f.typ, .slice A f.data.length c] #[.int .u8 0, .int .u8 0, .int .u8 0, .int .u8 0, .int .u8 0, .int .u8 0, .int .u8 0, .int .u8 0, .int .u8 0, .int .u8 0, .int .u8 0, .int .u8 0, .int .i64 0, .int .i64 0, .slice none 0 0] 39 39
  have k0 : Turns nobody w ((w.alloc (.cells #[.int .u8 f.d.a0, .int .u8 f.d.a1, .int .u8 f.d.a2, .int .u8 f.d.a3, .int .u8 f.d.a4, .int .u8 f.d.a5, .int .u8 f.s.a0, .int .u8 f.s.a1, .int .u8 f.s.a2, .int .u8 f.s.a3, .int .u8 f.s.a4, .int .u8 f.s.a5, .int .i64 f.tag, .int .i64 f.typ, .slice A f.data.length c] 39)).alloc (.cells #[.int .u8 0, .int .u8 0, .int .u8 0, .int .u8 0, .int .u8 0, .int .u8 0, .int .u8 0, .int .u8 0, .int .u8 0, .int .u8 0, .int .u8 0, .int .u8 0, .int .i64 0, .int .i64 0, .slice none 0 0] 39)) := (by repeat' (first | exact Turns.refl _ _ | assumption | exact Or.inl rfl | exact Or.inr (Nat.le_refl _) | apply Turns.alloc | apply Turns.drew | apply Turns.drewN | apply Turns.setCell | (apply Or.inr; simp; done) | (apply Or.inr; simp; omega) | exact fun _ hh => False.elim hh | exact fun _ hh => Or.inl hh | (intro i hi; right; (try simp only at hi); omega) | (intro i hi; right; simp at hi; omega) | refine Turns.step ?_ (by assumption) ?_))
  obtain ⟨bs, eb⟩ : ∃ bs, built f = bs := ⟨_, rfl⟩
  obtain ⟨g, eg⟩ : ∃ g, normF f = g := ⟨_, rfl⟩
  have p1 : parseE bs = 0 := eb ▸ (parse_built hb).1
  have p2 : parseF bs = g := eb ▸ eg ▸ (parse_built hb).2
  have p3 : Bytes bs := eb ▸ built_bytes hf hb
  rw [eg]
  clear eg
  replace hb := hide hb
  replace hr := hide (hr.still k0)
  replace eb := hide eb
  replace p1 := hide p1
  replace p2 := hide p2
  replace p3 := hide p3
  go_enter Try.func34, Try.ntmps34
  go_wp2_with fail
  refine (build_as f A c _ hb.out hr.out eb.out).mono ?_
  rintro e w1 ⟨X, k, rfl, o1, k1⟩
  replace B1 := B1.turns k1 (by intro hh; first | exact False.elim hh | ((try simp only at hh); omega) | (simp at hh; omega))
  have n1 := k1.size
  replace k1 := k0.trans k1
  clear B0
  obtain ⟨hc1, hc2⟩ := o1.caps
  go_wp2_with fail
  refine (parse_as X k bs _ o1.reads p3.out hc1 hc2 p1.out p2.out).mono ?_
  rintro e w2 ⟨Y, l, rfl, o2, k2⟩
  have B2 := B1.turns k2 (by intro hh; first | exact False.elim hh | ((try simp only at hh); omega) | (simp at hh; omega))
  have n2 := k2.size
  go_wp2_with (refine wpList_store_whole rfl 39 (.tmp 2) (.tmp 17) (by rfl) (w.heap.size + 1) _ #[.int .u8 g.d.a0, .int .u8 g.d.a1, .int .u8 g.d.a2, .int .u8 g.d.a3, .int .u8 g.d.a4, .int .u8 g.d.a5, .int .u8 g.s.a0, .int .u8 g.s.a1, .int .u8 g.s.a2, .int .u8 g.s.a3, .int .u8 g.s.a4, .int .u8 g.s.a5, .int .i64 g.tag, .int .i64 g.typ, .slice Y g.data.length l] 39 (by rfl) (by rfl) B2 rfl Try.info39 (by simp [Value.oneCell']) ?_; intro w3 h3 k3)
  refine bodyPost_ret (ret_frame rfl _ _ (w.heap.size + 1) _ rfl h3 rfl) rfl ?_
  have n0 := k0.size
  simp at n0 n1
  refine ⟨Y, l, rfl, ((o2.lower (by omega)).turns k3 (fun i hi e => by have := (o2.lt i hi).1; omega)), Turns.step (k1.trans k2) k3 (fun i hi => .inr (by omega))⟩

theorem bytes_eq {a b : List Int} (ha : Bytes a) (hb : Bytes b) : a.map (fun n => UInt8.ofNat n.toNat) = b.map (fun n => UInt8.ofNat n.toNat) ↔ a = b := by
  constructor
  · intro h
    have back : ∀ l, Bytes l → (l.map (fun n : Int => UInt8.ofNat n.toNat)).map (fun u => (u.toNat : Int)) = l := by
      intro l hl
      rw [List.map_map]
      have : ∀ x ∈ l, ((fun u : UInt8 => (u.toNat : Int)) ∘ fun n : Int => UInt8.ofNat n.toNat) x = x := by
        intro x hx
        have := hl x hx
        simp
        omega
      rw [List.map_congr_left this, List.map_id']
    rw [← back a ha, ← back b hb, h]
  · intro h; rw [h]
theorem str_eq {a b : List Int} (ha : Bytes a) (hb : Bytes b) : ((strOfNums a).toList == (strOfNums b).toList) = decide (a = b) := by
  rw [Bool.eq_iff_iff, beq_iff_eq, decide_eq_true_iff, ByteArray.toList_eq, ByteArray.toList_eq, strOfNums_data, strOfNums_data]
  exact bytes_eq ha hb
theorem Try.size5 : ∀ w, (sizeOf 5).run Try.prog w = .ok 1 w := fun w => by kernel_rfl
theorem ad_ext {a b : Ad} : a.list = b.list ↔ a = b := by
  constructor
  · intro h
    simp [Ad.list] at h
    obtain ⟨h0, h1, h2, h3, h4, h5⟩ := h
    cases a; cases b; simp_all
  · intro h; rw [h]
set_option maxRecDepth 100000 in
theorem run_eql_addr (a b : Ad) (ha : Bytes a.list) (hb : Bytes b.list) (w : World) : (Op.equalIn 10000 27 (.agg #[.int .u8 a.a0, .int .u8 a.a1, .int .u8 a.a2, .int .u8 a.a3, .int .u8 a.a4, .int .u8 a.a5]) (.agg #[.int .u8 b.a0, .int .u8 b.a1, .int .u8 b.a2, .int .u8 b.a3, .int .u8 b.a4, .int .u8 b.a5])).run Try.prog w = .ok (decide (a = b)) w := by
  have h := run_equalIn_bytes (P := Try.prog) w 9998 27 5 6 Try.underlying27 Try.underlying5 Try.size5 (a.list.map fun n => UInt8.ofNat n.toNat) (b.list.map fun n => UInt8.ofNat n.toNat) rfl rfl
  have e : ∀ c : Ad, Bytes c.list → ((c.list.map fun n : Int => UInt8.ofNat n.toNat).map Extern.Stop.cell).toArray = #[.int .u8 c.a0, .int .u8 c.a1, .int .u8 c.a2, .int .u8 c.a3, .int .u8 c.a4, .int .u8 c.a5] := by
    intro c hc
    obtain ⟨h0, h1, h2, h3, h4, h5⟩ := ad_byte hc
    simp [Ad.list, Extern.Stop.cell]
    omega
  rw [e a ha, e b hb] at h
  rw [h]
  congr 1
  rw [Bool.eq_iff_iff, beq_iff_eq, decide_eq_true_iff, bytes_eq ha hb, ad_ext]

end Go.Proofs.Ytbiplmlkgbicnaa
