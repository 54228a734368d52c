/- What frame.Parse gives. -/
import Derived.Test.YtbiplmlkgbicnaaWhole
set_option linter.unusedVariables false
namespace Go.Proofs.Ytbiplmlkgbicnaa
open Go.RowKit Go.Proofs.YtbiplmlkgbicnaaW.PrintWords

theorem tagged_as (A : Option Addr) (c : Nat) (bs : List Int) (w : World) (h : ReadsB w A bs) (hm : bs.length ≤ maxLen) {t : Bool} (ht : tagged bs = t) : Calls Try.prog 62 #[.slice A bs.length c] w fun e w' => e = .returned (.bool t) ∧ Turns nobody w w' := ht ▸ tagged_law A c bs w h hm

set_option maxHeartbeats 2000000 in
set_option maxRecDepth 100000 in
theorem parse_short_law (A : Option Addr) (c : Nat) (bs : List Int) (w : World) (hr : ReadsB w A bs) (hm : bs.length ≤ maxLen) (he : bs.length < atOf bs + 2) :
    Calls Try.prog 28 #[.slice A bs.length c] w fun e w' => e = .returned (.tuple #[.agg #[.int .u8 0, .int .u8 0, .int .u8 0, .int .u8 0, .int .u8 0, .int .u8 0, .int .u8 0, .int .u8 0, .int .u8 0, .int .u8 0, .int .u8 0, .int .u8 0, .int .i64 0, .int .i64 0, .slice none 0 0], .int .i64 4]) ∧ Turns nobody w w' := by
  have hm' := hm
  unfold maxLen at hm'
  replace hr := hide hr
  by_cases h1 : bs.length < 14
  · have ht : tagged bs = false := by simp [tagged]; omega
    replace ht := hide ht
    clear he
    have B0 := Blk.new w #[.int .u8 0, .int .u8 0, .int .u8 0, .int .u8 0, .int .u8 0, .int .u8 0, .int .u8 0, .int .u8 0, .int .u8 0, .int .u8 0, .int .u8 0, .int .u8 0, .int .i64 0, .int .i64 0, .slice none 0 0] 39
    go_enter Try.func28, Try.ntmps28
    go_wp2_with fail
    refine (tagged_as A c bs _ (hr.out.still ((Turns.refl nobody w).alloc _)) hm ht.out).mono ?_
    rintro e w1 ⟨rfl, k1⟩
    try clear cB0 fB0
    replace B0 := B0.turns k1 (by intro hh; first | exact False.elim hh | ((try simp only at hh); omega) | (simp at hh; omega))
    have cB0 := B0.cell; have fB0 := B0.frozen
    clear cB0 fB0
    replace k1 := ((Turns.refl nobody w).alloc _).trans k1
    go_wp2_with (refine wpList_store_whole rfl 39 (.tmp 2) (.tmp 21) (by rfl) w.heap.size _ #[.int .u8 0, .int .u8 0, .int .u8 0, .int .u8 0, .int .u8 0, .int .u8 0, .int .u8 0, .int .u8 0, .int .u8 0, .int .u8 0, .int .u8 0, .int .u8 0, .int .i64 0, .int .i64 0, .slice none 0 0] 39 (by rfl) (by rfl) B0 rfl Try.info39 (by simp [Value.oneCell']) ?_; intro w2 h2 k2)
    refine bodyPost_ret (ret_frame rfl _ _ w.heap.size #[.int .u8 0, .int .u8 0, .int .u8 0, .int .u8 0, .int .u8 0, .int .u8 0, .int .u8 0, .int .u8 0, .int .u8 0, .int .u8 0, .int .u8 0, .int .u8 0, .int .i64 0, .int .i64 0, .slice none 0 0] rfl h2 rfl) rfl ?_
    exact ⟨rfl, (by repeat' (first | exact Turns.refl _ _ | assumption | exact Or.inl rfl | exact Or.inr (Nat.le_refl _) | apply Turns.alloc | apply Turns.drew | apply Turns.drewN | apply Turns.setCell | (apply Or.inr; simp; done) | (apply Or.inr; simp; omega) | exact fun _ hh => False.elim hh | exact fun _ hh => Or.inl hh | (intro i hi; right; (try simp only at hi); omega) | (intro i hi; right; simp at hi; omega) | refine Turns.step ?_ (by assumption) ?_))⟩
  · have ht : tagged bs = true := by
      cases h : tagged bs with
      | true => rfl
      | false => simp [atOf, h] at he; omega
    have h18 : bs.length < 18 := by simpa [atOf, ht] using he
    replace ht := hide ht
    clear he
    have B0 := Blk.new w #[.int .u8 0, .int .u8 0, .int .u8 0, .int .u8 0, .int .u8 0, .int .u8 0, .int .u8 0, .int .u8 0, .int .u8 0, .int .u8 0, .int .u8 0, .int .u8 0, .int .i64 0, .int .i64 0, .slice none 0 0] 39
    go_enter Try.func28, Try.ntmps28
    go_wp2_with fail
    refine (tagged_as A c bs _ (hr.out.still ((Turns.refl nobody w).alloc _)) hm ht.out).mono ?_
    rintro e w1 ⟨rfl, k1⟩
    try clear cB0 fB0
    replace B0 := B0.turns k1 (by intro hh; first | exact False.elim hh | ((try simp only at hh); omega) | (simp at hh; omega))
    have cB0 := B0.cell; have fB0 := B0.frozen
    clear cB0 fB0
    replace k1 := ((Turns.refl nobody w).alloc _).trans k1
    go_wp2_with (refine wpList_store_whole rfl 39 (.tmp 2) (.tmp 21) (by rfl) w.heap.size _ #[.int .u8 0, .int .u8 0, .int .u8 0, .int .u8 0, .int .u8 0, .int .u8 0, .int .u8 0, .int .u8 0, .int .u8 0, .int .u8 0, .int .u8 0, .int .u8 0, .int .i64 0, .int .i64 0, .slice none 0 0] 39 (by rfl) (by rfl) B0 rfl Try.info39 (by simp [Value.oneCell']) ?_; intro w2 h2 k2)
    refine bodyPost_ret (ret_frame rfl _ _ w.heap.size #[.int .u8 0, .int .u8 0, .int .u8 0, .int .u8 0, .int .u8 0, .int .u8 0, .int .u8 0, .int .u8 0, .int .u8 0, .int .u8 0, .int .u8 0, .int .u8 0, .int .i64 0, .int .i64 0, .slice none 0 0] rfl h2 rfl) rfl ?_
    exact ⟨rfl, (by repeat' (first | exact Turns.refl _ _ | assumption | exact Or.inl rfl | exact Or.inr (Nat.le_refl _) | apply Turns.alloc | apply Turns.drew | apply Turns.drewN | apply Turns.setCell | (apply Or.inr; simp; done) | (apply Or.inr; simp; omega) | exact fun _ hh => False.elim hh | exact fun _ hh => Or.inl hh | (intro i hi; right; (try simp only at hi); omega) | (intro i hi; right; simp at hi; omega) | refine Turns.step ?_ (by assumption) ?_))⟩

theorem num_drop (bs : List Int) (k i : Nat) : num (bs.drop k) i = num bs (k + i) := by simp only [num, nth_drop, Nat.add_assoc]

/-- Which way bytes go, out of their type T and what stands behind it. -/
theorem parseE_of {bs R : List Int} {T : Int} (he : atOf bs + 2 ≤ bs.length) (hT : typOf bs = T) (hR : restOf bs = R) :
    parseE bs = if (1501 ≤ T ∧ T ≤ 1535) ∨ T = 33024 ∨ (T ≤ 1500 ∧ (R.length : Int) < T) then 5 else if 1500 < T ∧ 1500 < R.length then 9 else 0 := by
  unfold parseE
  rw [if_neg (by omega), hT, hR]
theorem fr_one (l : List Value) (a b : Int) (v : Value) (h : ∀ x ∈ l, x.oneCell' = true) (hv : v.oneCell' = true) : (l ++ [.int .i64 a, .int .i64 b, v]).toArray.all (·.oneCell') = true := by
  refine all_oneCell_toArray fun x hx => ?_
  rcases List.mem_append.1 hx with hx | hx
  · exact h x hx
  · simp at hx
    rcases hx with rfl | rfl | rfl
    · rfl
    · rfl
    · exact hv
theorem six2_one (bs : List Int) : ∀ x ∈ six' bs 0 ++ six' bs 6, x.oneCell' = true := fun x hx => (List.mem_append.1 hx).elim (six_one _ _ x) (six_one _ _ x)

set_option maxHeartbeats 4000000 in
set_option maxRecDepth 100000 in
theorem parse_un_law (b o : Nat) (c : Nat) (bs : List Int) (w : World) (hr : ReadsB w (some ⟨b, o, none⟩) bs) (hB : Bytes bs) (hlt : b < w.heap.size) (hc : bs.length ≤ c) (hm : c ≤ maxLen) (ht : tagged bs = false) (h14 : 14 ≤ bs.length) {er : Int} (hE : parseE bs = er) :
    Calls Try.prog 28 #[.slice (some ⟨b, o, none⟩) bs.length c] w fun e w' => ∃ X k, e = .returned (.tuple #[.agg #[.int .u8 (parseF bs).d.a0, .int .u8 (parseF bs).d.a1, .int .u8 (parseF bs).d.a2, .int .u8 (parseF bs).d.a3, .int .u8 (parseF bs).d.a4, .int .u8 (parseF bs).d.a5, .int .u8 (parseF bs).s.a0, .int .u8 (parseF bs).s.a1, .int .u8 (parseF bs).s.a2, .int .u8 (parseF bs).s.a3, .int .u8 (parseF bs).s.a4, .int .u8 (parseF bs).s.a5, .int .i64 (parseF bs).tag, .int .i64 (parseF bs).typ, .slice X (parseF bs).data.length k], .int .i64 er]) ∧ OwnB w' w.heap.size (.slice X (parseF bs).data.length k) (parseF bs).data ∧ Turns nobody w w' := by
  have hm' := hm
  unfold maxLen at hm'
  have hat : atOf bs = 12 := by unfold atOf; rw [ht]; rfl
  have htag : tagOf bs = -1 := by unfold tagOf; rw [ht]; rfl
  replace hr := hide hr
  replace hE := hide hE
  replace ht := hide ht
  replace hat := hide hat
  replace htag := hide htag
  have B0 := Blk.new w #[.int .u8 0, .int .u8 0, .int .u8 0, .int .u8 0, .int .u8 0, .int .u8 0, .int .u8 0, .int .u8 0, .int .u8 0, .int .u8 0, .int .u8 0, .int .u8 0, .int .i64 0, .int .i64 0, .slice none 0 0] 39
  go_enter Try.func28, Try.ntmps28
  go_wp2_with fail
  refine (tagged_as (some ⟨b, o, none⟩) c bs _ (hr.out.still ((Turns.refl nobody w).alloc _)) (by omega) ht.out).mono ?_
  rintro e w1 ⟨rfl, k1⟩
  replace B0 := B0.turns k1 (by intro hh; first | exact False.elim hh | ((try simp only at hh); omega) | (simp at hh; omega))
  replace k1 := ((Turns.refl nobody w).alloc _).trans k1
  have n1 : w.heap.size + 1 ≤ w1.heap.size := B0.lt
  have hr1 := hide (hr.out.still k1)
  go_wp2_with fail
  have P1 := Blk.new w1 (.slice (some ⟨b, o, none⟩) bs.length c :: #[.int .u8 Frm.none.d.a0, .int .u8 Frm.none.d.a1, .int .u8 Frm.none.d.a2, .int .u8 Frm.none.d.a3, .int .u8 Frm.none.d.a4, .int .u8 Frm.none.d.a5, .int .u8 Frm.none.s.a0, .int .u8 Frm.none.s.a1, .int .u8 Frm.none.s.a2, .int .u8 Frm.none.s.a3, .int .u8 Frm.none.s.a4, .int .u8 Frm.none.s.a5, .int .i64 Frm.none.tag, .int .i64 Frm.none.typ, .slice none 0 0].toList).toArray 114
  refine (head_law (f := Frm.none) (v := .slice none 0 0) P1 (hr1.out.still ((Turns.refl nobody w1).alloc _)) (by omega) (by omega) hc hm).mono ?_
  rintro e w2 ⟨rfl, o2, P2, r2, k2⟩
  have B2 := (B0.alloc _).turns k2 (by intro hh; first | exact False.elim hh | ((try simp only at hh); omega) | (simp at hh; omega))
  have K2 : Turns nobody w w2 := Turns.step (k1.alloc _) k2 (fun i hi => .inr (by rw [hi]; omega))
  clear P1 k2
  have hB2 := hB.drop 12
  have hTT : typOf bs = num (bs.drop 12) 0 := by unfold typOf; rw [hat.out, num_drop]
  have hRR : restOf bs = (bs.drop 12).drop 2 := by unfold restOf; rw [hat.out, List.drop_drop]
  have he5 := parseE_of (by rw [hat.out]; omega) hTT hRR
  rw [hE.out] at he5
  have lD : (bs.drop 12).length = bs.length - 12 := List.length_drop
  have T0 := num_bounds hB2 0
  replace hTT := hide hTT
  replace hRR := hide hRR
  replace he5 := hide he5
  replace lD := hide lD
  go_wp2_with fail
  refine (number_law P2 r2 (by omega) (by rw [lD.out]; omega) (by rw [lD.out]; omega) (by omega) hB2).mono ?_
  rintro e w3 ⟨rfl, o3, P3, r3, k3⟩
  have l3 : ((bs.drop 12).drop 2).length = bs.length - 12 - 2 := by rw [List.length_drop, lD.out]
  obtain ⟨T, eT⟩ : ∃ T, T = num (bs.drop 12) 0 := ⟨_, rfl⟩
  obtain ⟨R, eR⟩ : ∃ R, R = (bs.drop 12).drop 2 := ⟨_, rfl⟩
  rw [← eT] at T0 hTT he5 ⊢
  rw [← eR] at l3 P3 r3 hRR he5
  clear eT eR
  obtain ⟨T1, T2⟩ := T0
  have l3a : R.length + 12 + 2 ≤ bs.length := by omega
  have l3b : bs.length ≤ R.length + 12 + 2 := by omega
  clear l3
  have B3 := B2.turns k3 (by intro hh; first | exact False.elim hh | ((try simp only at hh); omega) | (simp at hh; omega))
  have K3 := Turns.step K2 k3 (fun i hi => .inr (by rw [hi]; omega))
  have c0 : w3.cell? ⟨w1.heap.size, 0, none⟩ = some (.slice (some ⟨b, o3, none⟩) R.length (c - 12 - 2)) := P3.cell 0
  have c14 : w3.cell? ⟨w1.heap.size, 14, none⟩ = some (.int .i64 0) := P3.cell 14
  have f0 := P3.frozen 0
  have f14 := P3.frozen 14
  have lt3 := P3.lt
  have k4 : Turns (· = w1.heap.size) w3 (w3.setCell ⟨w1.heap.size, 14, none⟩ (.int .i64 T)) := Turns.setCell (S := (· = w1.heap.size)) (Turns.refl _ _) (.inl rfl) _
  have K4 := Turns.step K3 k4 (fun i hi => .inr (by rw [hi]; omega))
  have B4 := B3.turns k4 (by intro hh; first | exact False.elim hh | ((try simp only at hh); omega) | (simp at hh; omega))
  have P4 : Hid (Blk (w3.setCell ⟨w1.heap.size, 14, none⟩ (.int .i64 T)) w1.heap.size (.slice (some ⟨b, o3, none⟩) R.length (c - 12 - 2) :: (six' bs 0 ++ (six' bs 6 ++ [.int .i64 (-1), .int .i64 T, .slice none 0 0]))).toArray 114) := hide (by simpa [six'] using P3.set 14 (.int .i64 T))
  replace P3 := hide P3
  replace r3 := hide r3
  replace k4 := hide k4
  have hTb : (T == 33024) = decide (T = 33024) := by rw [Bool.eq_iff_iff]; simp
  replace hTb := hide hTb
  by_cases q1 : 1501 ≤ T ∧ T ≤ 1535
  · have e5 : er = 5 := by rw [he5.out, if_pos (.inl q1)]
    subst e5
    obtain ⟨q1a, q1b⟩ := q1
    go_wp2_with (refine wpList_store_whole rfl 39 (.tmp 2) (.tmp 76) (by rfl) w.heap.size _ #[.int .u8 0, .int .u8 0, .int .u8 0, .int .u8 0, .int .u8 0, .int .u8 0, .int .u8 0, .int .u8 0, .int .u8 0, .int .u8 0, .int .u8 0, .int .u8 0, .int .i64 0, .int .i64 0, .slice none 0 0] 39 (by rfl) (by rfl) B4 rfl Try.info39 (by simp [Value.oneCell']) ?_; intro w9 h9 k9)
    refine bodyPost_ret (ret_frame rfl _ _ w.heap.size #[.int .u8 0, .int .u8 0, .int .u8 0, .int .u8 0, .int .u8 0, .int .u8 0, .int .u8 0, .int .u8 0, .int .u8 0, .int .u8 0, .int .u8 0, .int .u8 0, .int .i64 0, .int .i64 0, .slice none 0 0] rfl h9 rfl) rfl ?_
    rw [parseF_err (by rw [hE.out]; decide)]
    have k9' : Turns nobody w w9 := Turns.step K4 k9 (fun i hi => .inr (Nat.le_of_eq hi.symm))
    exact ⟨none, 0, rfl, OwnB.nil_slice _ _, k9'⟩
  by_cases q2 : T = 33024
  · have e5 : er = 5 := by rw [he5.out, if_pos (.inr (.inl q2))]
    subst e5
    subst q2
    go_wp2_with (refine wpList_store_whole rfl 39 (.tmp 2) (.tmp 76) (by rfl) w.heap.size _ #[.int .u8 0, .int .u8 0, .int .u8 0, .int .u8 0, .int .u8 0, .int .u8 0, .int .u8 0, .int .u8 0, .int .u8 0, .int .u8 0, .int .u8 0, .int .u8 0, .int .i64 0, .int .i64 0, .slice none 0 0] 39 (by rfl) (by rfl) B4 rfl Try.info39 (by simp [Value.oneCell']) ?_; intro w9 h9 k9)
    refine bodyPost_ret (ret_frame rfl _ _ w.heap.size #[.int .u8 0, .int .u8 0, .int .u8 0, .int .u8 0, .int .u8 0, .int .u8 0, .int .u8 0, .int .u8 0, .int .u8 0, .int .u8 0, .int .u8 0, .int .u8 0, .int .i64 0, .int .i64 0, .slice none 0 0] rfl h9 rfl) rfl ?_
    rw [parseF_err (by rw [hE.out]; decide)]
    have k9' : Turns nobody w w9 := Turns.step K4 k9 (fun i hi => .inr (Nat.le_of_eq hi.symm))
    exact ⟨none, 0, rfl, OwnB.nil_slice _ _, k9'⟩
  have q2b : (T == 33024) = false := by simpa using q2
  by_cases q3 : T ≤ 1500
  · by_cases q4 : (R.length : Int) < T
    · have e5 : er = 5 := by rw [he5.out, if_pos (.inr (.inr ⟨q3, q4⟩))]
      subst e5
      clear q1 q2
      go_wp2_with (refine wpList_store_whole rfl 39 (.tmp 2) (.tmp 76) (by rfl) w.heap.size _ #[.int .u8 0, .int .u8 0, .int .u8 0, .int .u8 0, .int .u8 0, .int .u8 0, .int .u8 0, .int .u8 0, .int .u8 0, .int .u8 0, .int .u8 0, .int .u8 0, .int .i64 0, .int .i64 0, .slice none 0 0] 39 (by rfl) (by rfl) B4 rfl Try.info39 (by simp [Value.oneCell']) ?_; intro w9 h9 k9)
      refine bodyPost_ret (ret_frame rfl _ _ w.heap.size #[.int .u8 0, .int .u8 0, .int .u8 0, .int .u8 0, .int .u8 0, .int .u8 0, .int .u8 0, .int .u8 0, .int .u8 0, .int .u8 0, .int .u8 0, .int .u8 0, .int .i64 0, .int .i64 0, .slice none 0 0] rfl h9 rfl) rfl ?_
      rw [parseF_err (by rw [hE.out]; decide)]
      have k9' : Turns nobody w w9 := Turns.step K4 k9 (fun i hi => .inr (Nat.le_of_eq hi.symm))
      exact ⟨none, 0, rfl, OwnB.nil_slice _ _, k9'⟩
    · have e5 : er = 0 := by rw [he5.out, if_neg (by omega), if_neg (by omega)]
      subst e5
      clear q1 q2
      obtain ⟨D, hD⟩ : ∃ D, dataOf bs = D := ⟨_, rfl⟩
      have hD2 : D = R.take T.toNat := by rw [← hD]; unfold dataOf; rw [hTT.out, hRR.out, if_pos q3]
      have hD3 : D.length = T.toNat := by rw [hD2, List.length_take]; omega
      have q5 : T ≤ ((c - 12 - 2 : Nat) : Int) := by omega
      have q6 : ¬ (1500 < T) := by omega
      have q7 : ¬ (T < 0) := by omega
      have rD : ReadsB (w3.setCell ⟨w1.heap.size, 14, none⟩ (.int .i64 T)) (some ⟨b, o3, none⟩) D := by rw [hD2]; exact (r3.out.turns k4.out (by rintro a ⟨⟩; show b ≠ w1.heap.size; omega)).take _
      replace hD := hide hD
      replace hD2 := hide hD2
      replace hD3 := hide hD3
      have hw : whole bs = ⟨adOf bs 0, adOf bs 6, tagOf bs, T, D⟩ := by unfold whole; rw [hTT.out, hD.out]
      replace hw := hide hw
      have hF : parseF bs = whole bs := by unfold parseF; rw [if_pos hE.out]
      replace hF := hide hF
      replace rD := hide rD
      go_upto_region 21 with (
          (at_builtin
           refine wpList_own_bytes rfl (.tmp 89) (.tmp 90) (by rfl) (w0 := w3.setCell ⟨w1.heap.size, 14, none⟩ (.int .i64 T)) w3.heap.size _ [] (by rfl) (OwnB.fresh _ (by simp) (Nat.le_refl _)) _ _ _ D (by rfl) (rD.out.still ((Turns.refl nobody _).alloc _)) hD3.out (by simp; omega) (by simp) ((Turns.refl nobody _).alloc _) (by simp) ?_
           intro L e5 a5 c5 w5 o5 k5 kk5
           have P5 := hide (P4.out.turns k5 (fun hh => hh))
           have B5 := hide (B4.turns k5 (fun hh => hh))
           have c15 : w5.cell? ⟨w1.heap.size, 15, none⟩ = some (.slice none 0 0) := P5.out.cell 15
           have f15 := P5.out.frozen 15
           have lt5 := P5.out.lt
           have eL : D = L := e5.out.symm
           subst eL
           clear e5
           have P6 : Hid (Blk (w5.setCell ⟨w1.heap.size, 15, none⟩ (.slice a5 D.length c5)) w1.heap.size (.slice (some ⟨b, o3, none⟩) R.length (c - 12 - 2) :: (six' bs 0 ++ (six' bs 6 ++ [.int .i64 (-1), .int .i64 T, .slice a5 D.length c5]))).toArray 114) := hide (by simpa [six'] using P5.out.set 15 (.slice a5 D.length c5))
           have k6 : Turns (· = w1.heap.size) w5 (w5.setCell ⟨w1.heap.size, 15, none⟩ (.slice a5 D.length c5)) := Turns.setCell (S := (· = w1.heap.size)) (Turns.refl _ _) (.inl rfl) _
           have B6 := hide (B5.out.turns k6 (fun hh => by omega))
           replace k6 := hide k6))
      go_wp2_with (first
        | (refine wpList_load_whole rfl 39 (.tmp 97) (by rfl) w1.heap.size 1 _ 114 (by rfl) (six' bs 0 ++ (six' bs 6 ++ [.int .i64 (-1), .int .i64 T, .slice a5 D.length c5])) _ P6.out (fun j v hv => by rw [Nat.add_comm]; simpa using hv) Try.underlying39 rfl (by rw [Try.info39]; rfl) ?_)
        | (refine wpList_store_whole rfl 39 (.tmp 2) (.tmp 98) (by rfl) w.heap.size _ (six' bs 0 ++ (six' bs 6 ++ [Value.int .i64 (-1), Value.int .i64 T, Value.slice a5 D.length c5])).toArray 39 (by rfl) (by rfl) B6.out rfl (by rw [Try.info39]; rfl) (by rw [← List.append_assoc]; exact fr_one _ _ _ _ (six2_one _) rfl) ?_
           intro w7 h7 k7))
      refine bodyPost_ret (ret_frame rfl _ _ w.heap.size _ rfl h7 rfl) rfl ?_
      have K7 : Turns nobody w w7 := Turns.step (Turns.step (Turns.step K4 k5 (fun i hi => hi.elim)) k6.out (fun i hi => .inr (by rw [hi]; omega))) k7 (fun i hi => .inr (Nat.le_of_eq hi.symm))
      rw [hF.out, hw.out, htag.out]
      refine ⟨a5, c5, rfl, ?_, K7⟩
      exact ((o5.lower (by omega)).turns k6.out (fun g hg e => by have := (o5.lt g hg).1; omega)).turns k7 (fun g hg e => by have := (o5.lt g hg).1; omega)
  · by_cases q4 : 1500 < R.length
    · have e5 : er = 9 := by rw [he5.out, if_neg (by omega), if_pos ⟨by omega, by omega⟩]
      subst e5
      have q5 : ¬ (T < 1536) := by omega
      clear q1 q2
      go_wp2_with (refine wpList_store_whole rfl 39 (.tmp 2) (.tmp 87) (by rfl) w.heap.size _ #[.int .u8 0, .int .u8 0, .int .u8 0, .int .u8 0, .int .u8 0, .int .u8 0, .int .u8 0, .int .u8 0, .int .u8 0, .int .u8 0, .int .u8 0, .int .u8 0, .int .i64 0, .int .i64 0, .slice none 0 0] 39 (by rfl) (by rfl) B4 rfl Try.info39 (by simp [Value.oneCell']) ?_; intro w9 h9 k9)
      refine bodyPost_ret (ret_frame rfl _ _ w.heap.size #[.int .u8 0, .int .u8 0, .int .u8 0, .int .u8 0, .int .u8 0, .int .u8 0, .int .u8 0, .int .u8 0, .int .u8 0, .int .u8 0, .int .u8 0, .int .u8 0, .int .i64 0, .int .i64 0, .slice none 0 0] rfl h9 rfl) rfl ?_
      rw [parseF_err (by rw [hE.out]; decide)]
      have k9' : Turns nobody w w9 := Turns.step K4 k9 (fun i hi => .inr (Nat.le_of_eq hi.symm))
      exact ⟨none, 0, rfl, OwnB.nil_slice _ _, k9'⟩
    · have e5 : er = 0 := by rw [he5.out, if_neg (by omega), if_neg (by omega)]
      subst e5
      have q5 : ¬ (T < 1536) := by omega
      have q6 : ¬ ((1500 : Int) < R.length) := by omega
      obtain ⟨D, hD⟩ : ∃ D, dataOf bs = D := ⟨_, rfl⟩
      have hD2 : R = D := by rw [← hD]; unfold dataOf; rw [hTT.out, hRR.out, if_neg q3]
      subst hD2
      clear q1 q2 q4
      replace hD := hide hD
      have rD : ReadsB (w3.setCell ⟨w1.heap.size, 14, none⟩ (.int .i64 T)) (some ⟨b, o3, none⟩) R := r3.out.turns k4.out (by rintro a ⟨⟩; show b ≠ w1.heap.size; omega)
      have hw : whole bs = ⟨adOf bs 0, adOf bs 6, tagOf bs, T, R⟩ := by unfold whole; rw [hTT.out, hD.out]
      replace hw := hide hw
      have hF : parseF bs = whole bs := by unfold parseF; rw [if_pos hE.out]
      replace hF := hide hF
      replace rD := hide rD
      go_upto_region 21 with (
          (at_builtin
           refine wpList_own_bytes rfl (.tmp 89) (.tmp 90) (by rfl) (w0 := w3.setCell ⟨w1.heap.size, 14, none⟩ (.int .i64 T)) w3.heap.size _ [] (by rfl) (OwnB.fresh _ (by simp) (Nat.le_refl _)) _ _ _ R (by rfl) (rD.out.still ((Turns.refl nobody _).alloc _)) rfl (by simp; omega) (by simp) ((Turns.refl nobody _).alloc _) (by simp) ?_
           intro L e5 a5 c5 w5 o5 k5 kk5
           have P5 := hide (P4.out.turns k5 (fun hh => hh))
           have B5 := hide (B4.turns k5 (fun hh => hh))
           have c15 : w5.cell? ⟨w1.heap.size, 15, none⟩ = some (.slice none 0 0) := P5.out.cell 15
           have f15 := P5.out.frozen 15
           have lt5 := P5.out.lt
           have eL : R = L := e5.out.symm
           subst eL
           clear e5
           have P6 : Hid (Blk (w5.setCell ⟨w1.heap.size, 15, none⟩ (.slice a5 R.length c5)) w1.heap.size (.slice (some ⟨b, o3, none⟩) R.length (c - 12 - 2) :: (six' bs 0 ++ (six' bs 6 ++ [.int .i64 (-1), .int .i64 T, .slice a5 R.length c5]))).toArray 114) := hide (by simpa [six'] using P5.out.set 15 (.slice a5 R.length c5))
           have k6 : Turns (· = w1.heap.size) w5 (w5.setCell ⟨w1.heap.size, 15, none⟩ (.slice a5 R.length c5)) := Turns.setCell (S := (· = w1.heap.size)) (Turns.refl _ _) (.inl rfl) _
           have B6 := hide (B5.out.turns k6 (fun hh => by omega))
           replace k6 := hide k6))
      go_wp2_with (first
        | (refine wpList_load_whole rfl 39 (.tmp 97) (by rfl) w1.heap.size 1 _ 114 (by rfl) (six' bs 0 ++ (six' bs 6 ++ [.int .i64 (-1), .int .i64 T, .slice a5 R.length c5])) _ P6.out (fun j v hv => by rw [Nat.add_comm]; simpa using hv) Try.underlying39 rfl (by rw [Try.info39]; rfl) ?_)
        | (refine wpList_store_whole rfl 39 (.tmp 2) (.tmp 98) (by rfl) w.heap.size _ (six' bs 0 ++ (six' bs 6 ++ [Value.int .i64 (-1), Value.int .i64 T, Value.slice a5 R.length c5])).toArray 39 (by rfl) (by rfl) B6.out rfl (by rw [Try.info39]; rfl) (by rw [← List.append_assoc]; exact fr_one _ _ _ _ (six2_one _) rfl) ?_
           intro w7 h7 k7))
      refine bodyPost_ret (ret_frame rfl _ _ w.heap.size _ rfl h7 rfl) rfl ?_
      have K7 : Turns nobody w w7 := Turns.step (Turns.step (Turns.step K4 k5 (fun i hi => hi.elim)) k6.out (fun i hi => .inr (by rw [hi]; omega))) k7 (fun i hi => .inr (Nat.le_of_eq hi.symm))
      rw [hF.out, hw.out, htag.out]
      refine ⟨a5, c5, rfl, ?_, K7⟩
      exact ((o5.lower (by omega)).turns k6.out (fun g hg e => by have := (o5.lt g hg).1; omega)).turns k7 (fun g hg e => by have := (o5.lt g hg).1; omega)

set_option maxHeartbeats 4000000 in
set_option maxRecDepth 100000 in
theorem parse_tag_law (b o : Nat) (c : Nat) (bs : List Int) (w : World) (hr : ReadsB w (some ⟨b, o, none⟩) bs) (hB : Bytes bs) (hlt : b < w.heap.size) (hc : bs.length ≤ c) (hm : c ≤ maxLen) (ht : tagged bs = true) (h14 : 18 ≤ bs.length) {er : Int} (hE : parseE bs = er) :
    Calls Try.prog 28 #[.slice (some ⟨b, o, none⟩) bs.length c] w fun e w' => ∃ X k, e = .returned (.tuple #[.agg #[.int .u8 (parseF bs).d.a0, .int .u8 (parseF bs).d.a1, .int .u8 (parseF bs).d.a2, .int .u8 (parseF bs).d.a3, .int .u8 (parseF bs).d.a4, .int .u8 (parseF bs).d.a5, .int .u8 (parseF bs).s.a0, .int .u8 (parseF bs).s.a1, .int .u8 (parseF bs).s.a2, .int .u8 (parseF bs).s.a3, .int .u8 (parseF bs).s.a4, .int .u8 (parseF bs).s.a5, .int .i64 (parseF bs).tag, .int .i64 (parseF bs).typ, .slice X (parseF bs).data.length k], .int .i64 er]) ∧ OwnB w' w.heap.size (.slice X (parseF bs).data.length k) (parseF bs).data ∧ Turns nobody w w' := by
  have hm' := hm
  unfold maxLen at hm'
  have hat : atOf bs = 16 := by unfold atOf; rw [ht]; rfl
  have htag : tagOf bs = num bs 14 := by unfold tagOf; rw [ht]; rfl
  replace hr := hide hr
  replace hE := hide hE
  replace ht := hide ht
  replace hat := hide hat
  replace htag := hide htag
  have B0 := Blk.new w #[.int .u8 0, .int .u8 0, .int .u8 0, .int .u8 0, .int .u8 0, .int .u8 0, .int .u8 0, .int .u8 0, .int .u8 0, .int .u8 0, .int .u8 0, .int .u8 0, .int .i64 0, .int .i64 0, .slice none 0 0] 39
  go_enter Try.func28, Try.ntmps28
  go_wp2_with fail
  refine (tagged_as (some ⟨b, o, none⟩) c bs _ (hr.out.still ((Turns.refl nobody w).alloc _)) (by omega) ht.out).mono ?_
  rintro e w1 ⟨rfl, k1⟩
  replace B0 := B0.turns k1 (by intro hh; first | exact False.elim hh | ((try simp only at hh); omega) | (simp at hh; omega))
  replace k1 := ((Turns.refl nobody w).alloc _).trans k1
  have n1 : w.heap.size + 1 ≤ w1.heap.size := B0.lt
  have hr1 := hide (hr.out.still k1)
  go_wp2_with fail
  have P1 := Blk.new w1 (.slice (some ⟨b, o, none⟩) bs.length c :: #[.int .u8 Frm.none.d.a0, .int .u8 Frm.none.d.a1, .int .u8 Frm.none.d.a2, .int .u8 Frm.none.d.a3, .int .u8 Frm.none.d.a4, .int .u8 Frm.none.d.a5, .int .u8 Frm.none.s.a0, .int .u8 Frm.none.s.a1, .int .u8 Frm.none.s.a2, .int .u8 Frm.none.s.a3, .int .u8 Frm.none.s.a4, .int .u8 Frm.none.s.a5, .int .i64 Frm.none.tag, .int .i64 Frm.none.typ, .slice none 0 0].toList).toArray 114
  refine (head_law (f := Frm.none) (v := .slice none 0 0) P1 (hr1.out.still ((Turns.refl nobody w1).alloc _)) (by omega) (by omega) hc hm).mono ?_
  rintro e w2 ⟨rfl, o2, P2, r2, k2⟩
  have B2 := (B0.alloc _).turns k2 (by intro hh; first | exact False.elim hh | ((try simp only at hh); omega) | (simp at hh; omega))
  have K2 : Turns nobody w w2 := Turns.step (k1.alloc _) k2 (fun i hi => .inr (by rw [hi]; omega))
  clear P1 k2
  have la : (bs.drop 12).length = bs.length - 12 := List.length_drop
  replace la := hide la
  go_wp2_with fail
  refine (take_law P2 r2 (by omega) 2 (by decide) (by rw [la.out]; omega) (by rw [la.out]; omega) (by omega)).mono ?_
  rintro e w2a ⟨rfl, oa, Pa, ra, ka⟩
  clear P2 r2
  replace B2 := B2.turns ka (by intro hh; first | exact False.elim hh | ((try simp only at hh); omega) | (simp at hh; omega))
  replace K2 := Turns.step K2 ka (fun i hi => .inr (by rw [hi]; omega))
  clear ka
  have lb : ((bs.drop 12).drop 2).length = bs.length - 14 := by rw [List.length_drop, la.out]; omega
  replace lb := hide lb
  go_wp2_with fail
  refine (number_law Pa ra (by omega) (by rw [lb.out]; omega) (by rw [lb.out]; omega) (by omega) ((hB.drop 12).drop 2)).mono ?_
  rintro e w2b ⟨rfl, ob, Pb, rb, kb⟩
  clear Pa ra
  replace B2 := B2.turns kb (by intro hh; first | exact False.elim hh | ((try simp only at hh); omega) | (simp at hh; omega))
  replace K2 := Turns.step K2 kb (fun i hi => .inr (by rw [hi]; omega))
  clear kb
  have eN : num ((bs.drop 12).drop 2) 0 = num bs 14 := by rw [List.drop_drop, num_drop]
  rw [eN]
  rw [List.drop_drop, List.drop_drop] at Pb rb
  rw [Nat.sub_sub, Nat.sub_sub] at Pb
  clear eN
  have c13 : w2b.cell? ⟨w1.heap.size, 13, none⟩ = some (.int .i64 (-1)) := Pb.cell 13
  have f13 := Pb.frozen 13
  have lt2b := Pb.lt
  have kc : Turns (· = w1.heap.size) w2b (w2b.setCell ⟨w1.heap.size, 13, none⟩ (.int .i64 (num bs 14))) := Turns.setCell (S := (· = w1.heap.size)) (Turns.refl _ _) (.inl rfl) _
  have P2 : Blk (w2b.setCell ⟨w1.heap.size, 13, none⟩ (.int .i64 (num bs 14))) w1.heap.size (.slice (some ⟨b, ob, none⟩) (bs.drop 16).length (c - 16) :: (six' bs 0 ++ (six' bs 6 ++ [.int .i64 (num bs 14), .int .i64 0, .slice none 0 0]))).toArray 114 := by simpa [six', Frm.none] using Pb.set 13 (.int .i64 (num bs 14))
  have r2 := rb.turns kc (by rintro a ⟨⟩; show b ≠ w1.heap.size; omega)
  replace B2 := B2.turns kc (by intro hh; first | exact False.elim hh | ((try simp only at hh); omega) | (simp at hh; omega))
  replace K2 := Turns.step K2 kc (fun i hi => .inr (by rw [hi]; omega))
  clear Pb rb kc
  have hB2 := hB.drop 16
  have hTT : typOf bs = num (bs.drop 16) 0 := by unfold typOf; rw [hat.out, num_drop]
  have hRR : restOf bs = (bs.drop 16).drop 2 := by unfold restOf; rw [hat.out, List.drop_drop]
  have he5 := parseE_of (by rw [hat.out]; omega) hTT hRR
  rw [hE.out] at he5
  have lD : (bs.drop 16).length = bs.length - 16 := List.length_drop
  have T0 := num_bounds hB2 0
  replace hTT := hide hTT
  replace hRR := hide hRR
  replace he5 := hide he5
  replace lD := hide lD
  go_wp2_with fail
  refine (number_law P2 r2 (by omega) (by rw [lD.out]; omega) (by rw [lD.out]; omega) (by omega) hB2).mono ?_
  rintro e w3 ⟨rfl, o3, P3, r3, k3⟩
  have l3 : ((bs.drop 16).drop 2).length = bs.length - 16 - 2 := by rw [List.length_drop, lD.out]
  obtain ⟨T, eT⟩ : ∃ T, T = num (bs.drop 16) 0 := ⟨_, rfl⟩
  obtain ⟨R, eR⟩ : ∃ R, R = (bs.drop 16).drop 2 := ⟨_, rfl⟩
  rw [← eT] at T0 hTT he5 ⊢
  rw [← eR] at l3 P3 r3 hRR he5
  clear eT eR
  obtain ⟨T1, T2⟩ := T0
  have l3a : R.length + 16 + 2 ≤ bs.length := by omega
  have l3b : bs.length ≤ R.length + 16 + 2 := by omega
  clear l3
  have B3 := B2.turns k3 (by intro hh; first | exact False.elim hh | ((try simp only at hh); omega) | (simp at hh; omega))
  have K3 := Turns.step K2 k3 (fun i hi => .inr (by rw [hi]; omega))
  have c0 : w3.cell? ⟨w1.heap.size, 0, none⟩ = some (.slice (some ⟨b, o3, none⟩) R.length (c - 16 - 2)) := P3.cell 0
  have c14 : w3.cell? ⟨w1.heap.size, 14, none⟩ = some (.int .i64 0) := P3.cell 14
  have f0 := P3.frozen 0
  have f14 := P3.frozen 14
  have lt3 := P3.lt
  have k4 : Turns (· = w1.heap.size) w3 (w3.setCell ⟨w1.heap.size, 14, none⟩ (.int .i64 T)) := Turns.setCell (S := (· = w1.heap.size)) (Turns.refl _ _) (.inl rfl) _
  have K4 := Turns.step K3 k4 (fun i hi => .inr (by rw [hi]; omega))
  have B4 := B3.turns k4 (by intro hh; first | exact False.elim hh | ((try simp only at hh); omega) | (simp at hh; omega))
  have P4 : Hid (Blk (w3.setCell ⟨w1.heap.size, 14, none⟩ (.int .i64 T)) w1.heap.size (.slice (some ⟨b, o3, none⟩) R.length (c - 16 - 2) :: (six' bs 0 ++ (six' bs 6 ++ [.int .i64 (num bs 14), .int .i64 T, .slice none 0 0]))).toArray 114) := hide (by simpa [six'] using P3.set 14 (.int .i64 T))
  replace P3 := hide P3
  replace r3 := hide r3
  replace k4 := hide k4
  have hTb : (T == 33024) = decide (T = 33024) := by rw [Bool.eq_iff_iff]; simp
  replace hTb := hide hTb
  by_cases q1 : 1501 ≤ T ∧ T ≤ 1535
  · have e5 : er = 5 := by rw [he5.out, if_pos (.inl q1)]
    subst e5
    obtain ⟨q1a, q1b⟩ := q1
    go_wp2_with (refine wpList_store_whole rfl 39 (.tmp 2) (.tmp 76) (by rfl) w.heap.size _ #[.int .u8 0, .int .u8 0, .int .u8 0, .int .u8 0, .int .u8 0, .int .u8 0, .int .u8 0, .int .u8 0, .int .u8 0, .int .u8 0, .int .u8 0, .int .u8 0, .int .i64 0, .int .i64 0, .slice none 0 0] 39 (by rfl) (by rfl) B4 rfl Try.info39 (by simp [Value.oneCell']) ?_; intro w9 h9 k9)
    refine bodyPost_ret (ret_frame rfl _ _ w.heap.size #[.int .u8 0, .int .u8 0, .int .u8 0, .int .u8 0, .int .u8 0, .int .u8 0, .int .u8 0, .int .u8 0, .int .u8 0, .int .u8 0, .int .u8 0, .int .u8 0, .int .i64 0, .int .i64 0, .slice none 0 0] rfl h9 rfl) rfl ?_
    rw [parseF_err (by rw [hE.out]; decide)]
    have k9' : Turns nobody w w9 := Turns.step K4 k9 (fun i hi => .inr (Nat.le_of_eq hi.symm))
    exact ⟨none, 0, rfl, OwnB.nil_slice _ _, k9'⟩
  by_cases q2 : T = 33024
  · have e5 : er = 5 := by rw [he5.out, if_pos (.inr (.inl q2))]
    subst e5
    subst q2
    go_wp2_with (refine wpList_store_whole rfl 39 (.tmp 2) (.tmp 76) (by rfl) w.heap.size _ #[.int .u8 0, .int .u8 0, .int .u8 0, .int .u8 0, .int .u8 0, .int .u8 0, .int .u8 0, .int .u8 0, .int .u8 0, .int .u8 0, .int .u8 0, .int .u8 0, .int .i64 0, .int .i64 0, .slice none 0 0] 39 (by rfl) (by rfl) B4 rfl Try.info39 (by simp [Value.oneCell']) ?_; intro w9 h9 k9)
    refine bodyPost_ret (ret_frame rfl _ _ w.heap.size #[.int .u8 0, .int .u8 0, .int .u8 0, .int .u8 0, .int .u8 0, .int .u8 0, .int .u8 0, .int .u8 0, .int .u8 0, .int .u8 0, .int .u8 0, .int .u8 0, .int .i64 0, .int .i64 0, .slice none 0 0] rfl h9 rfl) rfl ?_
    rw [parseF_err (by rw [hE.out]; decide)]
    have k9' : Turns nobody w w9 := Turns.step K4 k9 (fun i hi => .inr (Nat.le_of_eq hi.symm))
    exact ⟨none, 0, rfl, OwnB.nil_slice _ _, k9'⟩
  have q2b : (T == 33024) = false := by simpa using q2
  by_cases q3 : T ≤ 1500
  · by_cases q4 : (R.length : Int) < T
    · have e5 : er = 5 := by rw [he5.out, if_pos (.inr (.inr ⟨q3, q4⟩))]
      subst e5
      clear q1 q2
      go_wp2_with (refine wpList_store_whole rfl 39 (.tmp 2) (.tmp 76) (by rfl) w.heap.size _ #[.int .u8 0, .int .u8 0, .int .u8 0, .int .u8 0, .int .u8 0, .int .u8 0, .int .u8 0, .int .u8 0, .int .u8 0, .int .u8 0, .int .u8 0, .int .u8 0, .int .i64 0, .int .i64 0, .slice none 0 0] 39 (by rfl) (by rfl) B4 rfl Try.info39 (by simp [Value.oneCell']) ?_; intro w9 h9 k9)
      refine bodyPost_ret (ret_frame rfl _ _ w.heap.size #[.int .u8 0, .int .u8 0, .int .u8 0, .int .u8 0, .int .u8 0, .int .u8 0, .int .u8 0, .int .u8 0, .int .u8 0, .int .u8 0, .int .u8 0, .int .u8 0, .int .i64 0, .int .i64 0, .slice none 0 0] rfl h9 rfl) rfl ?_
      rw [parseF_err (by rw [hE.out]; decide)]
      have k9' : Turns nobody w w9 := Turns.step K4 k9 (fun i hi => .inr (Nat.le_of_eq hi.symm))
      exact ⟨none, 0, rfl, OwnB.nil_slice _ _, k9'⟩
    · have e5 : er = 0 := by rw [he5.out, if_neg (by omega), if_neg (by omega)]
      subst e5
      clear q1 q2
      obtain ⟨D, hD⟩ : ∃ D, dataOf bs = D := ⟨_, rfl⟩
      have hD2 : D = R.take T.toNat := by rw [← hD]; unfold dataOf; rw [hTT.out, hRR.out, if_pos q3]
      have hD3 : D.length = T.toNat := by rw [hD2, List.length_take]; omega
      have q5 : T ≤ ((c - 16 - 2 : Nat) : Int) := by omega
      have q6 : ¬ (1500 < T) := by omega
      have q7 : ¬ (T < 0) := by omega
      have rD : ReadsB (w3.setCell ⟨w1.heap.size, 14, none⟩ (.int .i64 T)) (some ⟨b, o3, none⟩) D := by rw [hD2]; exact (r3.out.turns k4.out (by rintro a ⟨⟩; show b ≠ w1.heap.size; omega)).take _
      replace hD := hide hD
      replace hD2 := hide hD2
      replace hD3 := hide hD3
      have hw : whole bs = ⟨adOf bs 0, adOf bs 6, tagOf bs, T, D⟩ := by unfold whole; rw [hTT.out, hD.out]
      replace hw := hide hw
      have hF : parseF bs = whole bs := by unfold parseF; rw [if_pos hE.out]
      replace hF := hide hF
      replace rD := hide rD
      go_upto_region 21 with (
          (at_builtin
           refine wpList_own_bytes rfl (.tmp 89) (.tmp 90) (by rfl) (w0 := w3.setCell ⟨w1.heap.size, 14, none⟩ (.int .i64 T)) w3.heap.size _ [] (by rfl) (OwnB.fresh _ (by simp) (Nat.le_refl _)) _ _ _ D (by rfl) (rD.out.still ((Turns.refl nobody _).alloc _)) hD3.out (by simp; omega) (by simp) ((Turns.refl nobody _).alloc _) (by simp) ?_
           intro L e5 a5 c5 w5 o5 k5 kk5
           have P5 := hide (P4.out.turns k5 (fun hh => hh))
           have B5 := hide (B4.turns k5 (fun hh => hh))
           have c15 : w5.cell? ⟨w1.heap.size, 15, none⟩ = some (.slice none 0 0) := P5.out.cell 15
           have f15 := P5.out.frozen 15
           have lt5 := P5.out.lt
           have eL : D = L := e5.out.symm
           subst eL
           clear e5
           have P6 : Hid (Blk (w5.setCell ⟨w1.heap.size, 15, none⟩ (.slice a5 D.length c5)) w1.heap.size (.slice (some ⟨b, o3, none⟩) R.length (c - 16 - 2) :: (six' bs 0 ++ (six' bs 6 ++ [.int .i64 (num bs 14), .int .i64 T, .slice a5 D.length c5]))).toArray 114) := hide (by simpa [six'] using P5.out.set 15 (.slice a5 D.length c5))
           have k6 : Turns (· = w1.heap.size) w5 (w5.setCell ⟨w1.heap.size, 15, none⟩ (.slice a5 D.length c5)) := Turns.setCell (S := (· = w1.heap.size)) (Turns.refl _ _) (.inl rfl) _
           have B6 := hide (B5.out.turns k6 (fun hh => by omega))
           replace k6 := hide k6))
      go_wp2_with (first
        | (refine wpList_load_whole rfl 39 (.tmp 97) (by rfl) w1.heap.size 1 _ 114 (by rfl) (six' bs 0 ++ (six' bs 6 ++ [.int .i64 (num bs 14), .int .i64 T, .slice a5 D.length c5])) _ P6.out (fun j v hv => by rw [Nat.add_comm]; simpa using hv) Try.underlying39 rfl (by rw [Try.info39]; rfl) ?_)
        | (refine wpList_store_whole rfl 39 (.tmp 2) (.tmp 98) (by rfl) w.heap.size _ (six' bs 0 ++ (six' bs 6 ++ [Value.int .i64 (num bs 14), Value.int .i64 T, Value.slice a5 D.length c5])).toArray 39 (by rfl) (by rfl) B6.out rfl (by rw [Try.info39]; rfl) (by rw [← List.append_assoc]; exact fr_one _ _ _ _ (six2_one _) rfl) ?_
           intro w7 h7 k7))
      refine bodyPost_ret (ret_frame rfl _ _ w.heap.size _ rfl h7 rfl) rfl ?_
      have K7 : Turns nobody w w7 := Turns.step (Turns.step (Turns.step K4 k5 (fun i hi => hi.elim)) k6.out (fun i hi => .inr (by rw [hi]; omega))) k7 (fun i hi => .inr (Nat.le_of_eq hi.symm))
      rw [hF.out, hw.out, htag.out]
      refine ⟨a5, c5, rfl, ?_, K7⟩
      exact ((o5.lower (by omega)).turns k6.out (fun g hg e => by have := (o5.lt g hg).1; omega)).turns k7 (fun g hg e => by have := (o5.lt g hg).1; omega)
  · by_cases q4 : 1500 < R.length
    · have e5 : er = 9 := by rw [he5.out, if_neg (by omega), if_pos ⟨by omega, by omega⟩]
      subst e5
      have q5 : ¬ (T < 1536) := by omega
      clear q1 q2
      go_wp2_with (refine wpList_store_whole rfl 39 (.tmp 2) (.tmp 87) (by rfl) w.heap.size _ #[.int .u8 0, .int .u8 0, .int .u8 0, .int .u8 0, .int .u8 0, .int .u8 0, .int .u8 0, .int .u8 0, .int .u8 0, .int .u8 0, .int .u8 0, .int .u8 0, .int .i64 0, .int .i64 0, .slice none 0 0] 39 (by rfl) (by rfl) B4 rfl Try.info39 (by simp [Value.oneCell']) ?_; intro w9 h9 k9)
      refine bodyPost_ret (ret_frame rfl _ _ w.heap.size #[.int .u8 0, .int .u8 0, .int .u8 0, .int .u8 0, .int .u8 0, .int .u8 0, .int .u8 0, .int .u8 0, .int .u8 0, .int .u8 0, .int .u8 0, .int .u8 0, .int .i64 0, .int .i64 0, .slice none 0 0] rfl h9 rfl) rfl ?_
      rw [parseF_err (by rw [hE.out]; decide)]
      have k9' : Turns nobody w w9 := Turns.step K4 k9 (fun i hi => .inr (Nat.le_of_eq hi.symm))
      exact ⟨none, 0, rfl, OwnB.nil_slice _ _, k9'⟩
    · have e5 : er = 0 := by rw [he5.out, if_neg (by omega), if_neg (by omega)]
      subst e5
      have q5 : ¬ (T < 1536) := by omega
      have q6 : ¬ ((1500 : Int) < R.length) := by omega
      obtain ⟨D, hD⟩ : ∃ D, dataOf bs = D := ⟨_, rfl⟩
      have hD2 : R = D := by rw [← hD]; unfold dataOf; rw [hTT.out, hRR.out, if_neg q3]
      subst hD2
      clear q1 q2 q4
      replace hD := hide hD
      have rD : ReadsB (w3.setCell ⟨w1.heap.size, 14, none⟩ (.int .i64 T)) (some ⟨b, o3, none⟩) R := r3.out.turns k4.out (by rintro a ⟨⟩; show b ≠ w1.heap.size; omega)
      have hw : whole bs = ⟨adOf bs 0, adOf bs 6, tagOf bs, T, R⟩ := by unfold whole; rw [hTT.out, hD.out]
      replace hw := hide hw
      have hF : parseF bs = whole bs := by unfold parseF; rw [if_pos hE.out]
      replace hF := hide hF
      replace rD := hide rD
      go_upto_region 21 with (
          (at_builtin
           refine wpList_own_bytes rfl (.tmp 89) (.tmp 90) (by rfl) (w0 := w3.setCell ⟨w1.heap.size, 14, none⟩ (.int .i64 T)) w3.heap.size _ [] (by rfl) (OwnB.fresh _ (by simp) (Nat.le_refl _)) _ _ _ R (by rfl) (rD.out.still ((Turns.refl nobody _).alloc _)) rfl (by simp; omega) (by simp) ((Turns.refl nobody _).alloc _) (by simp) ?_
           intro L e5 a5 c5 w5 o5 k5 kk5
           have P5 := hide (P4.out.turns k5 (fun hh => hh))
           have B5 := hide (B4.turns k5 (fun hh => hh))
           have c15 : w5.cell? ⟨w1.heap.size, 15, none⟩ = some (.slice none 0 0) := P5.out.cell 15
           have f15 := P5.out.frozen 15
           have lt5 := P5.out.lt
           have eL : R = L := e5.out.symm
           subst eL
           clear e5
           have P6 : Hid (Blk (w5.setCell ⟨w1.heap.size, 15, none⟩ (.slice a5 R.length c5)) w1.heap.size (.slice (some ⟨b, o3, none⟩) R.length (c - 16 - 2) :: (six' bs 0 ++ (six' bs 6 ++ [.int .i64 (num bs 14), .int .i64 T, .slice a5 R.length c5]))).toArray 114) := hide (by simpa [six'] using P5.out.set 15 (.slice a5 R.length c5))
           have k6 : Turns (· = w1.heap.size) w5 (w5.setCell ⟨w1.heap.size, 15, none⟩ (.slice a5 R.length c5)) := Turns.setCell (S := (· = w1.heap.size)) (Turns.refl _ _) (.inl rfl) _
           have B6 := hide (B5.out.turns k6 (fun hh => by omega))
           replace k6 := hide k6))
      go_wp2_with (first
        | (refine wpList_load_whole rfl 39 (.tmp 97) (by rfl) w1.heap.size 1 _ 114 (by rfl) (six' bs 0 ++ (six' bs 6 ++ [.int .i64 (num bs 14), .int .i64 T, .slice a5 R.length c5])) _ P6.out (fun j v hv => by rw [Nat.add_comm]; simpa using hv) Try.underlying39 rfl (by rw [Try.info39]; rfl) ?_)
        | (refine wpList_store_whole rfl 39 (.tmp 2) (.tmp 98) (by rfl) w.heap.size _ (six' bs 0 ++ (six' bs 6 ++ [Value.int .i64 (num bs 14), Value.int .i64 T, Value.slice a5 R.length c5])).toArray 39 (by rfl) (by rfl) B6.out rfl (by rw [Try.info39]; rfl) (by rw [← List.append_assoc]; exact fr_one _ _ _ _ (six2_one _) rfl) ?_
           intro w7 h7 k7))
      refine bodyPost_ret (ret_frame rfl _ _ w.heap.size _ rfl h7 rfl) rfl ?_
      have K7 : Turns nobody w w7 := Turns.step (Turns.step (Turns.step K4 k5 (fun i hi => hi.elim)) k6.out (fun i hi => .inr (by rw [hi]; omega))) k7 (fun i hi => .inr (Nat.le_of_eq hi.symm))
      rw [hF.out, hw.out, htag.out]
      refine ⟨a5, c5, rfl, ?_, K7⟩
      exact ((o5.lower (by omega)).turns k6.out (fun g hg e => by have := (o5.lt g hg).1; omega)).turns k7 (fun g hg e => by have := (o5.lt g hg).1; omega)

end Go.Proofs.Ytbiplmlkgbicnaa
