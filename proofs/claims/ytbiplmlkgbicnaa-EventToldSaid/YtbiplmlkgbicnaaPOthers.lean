/- The walk of the law 'PauseOthers'. -/
import Derived.Test.YtbiplmlkgbicnaaPShown
set_option linter.unusedVariables false
namespace Go.Proofs.Ytbiplmlkgbicnaa
open Go.RowKit Go.Proofs.YtbiplmlkgbicnaaW.PrintWords

/-- A byte of a row of one's own is turned. -/
theorem OwnB.set {w : World} {base n c : Nat} {A : Option Addr} {bs : List Int} (h : OwnB w base (.slice A n c) bs) (hp : 0 < bs.length) :
    ∃ g, A = some ⟨g, 0, none⟩ ∧ base ≤ g ∧ g < w.heap.size ∧ (∀ j, j < bs.length → w.cell? ⟨g, j, none⟩ = some (.int .u8 (nth bs j))) ∧ (∀ j, w.frozen? ⟨g, j, none⟩ = false) ∧
      ∀ j x, j < bs.length → OwnB (w.setCell ⟨g, j, none⟩ (.int .u8 x)) base (.slice A n c) (bs.set j x) := by
  have hr := h.reads
  rcases h.2 with ⟨h3, _⟩ | ⟨g, cap, cur, h3, h4, h5, h6, h7, h8, h9⟩
  · injection h3 with _ h3 _
    obtain ⟨A', c', h1, _⟩ := h.form
    injection h1 with _ h1 _
    omega
  · injection h3 with hA hn hcap
    subst hA hcap
    obtain ⟨b, o, e, hlt, hc⟩ := hr.nth hp
    injection e with e
    injection e with e1 e2 _
    subst e1 e2
    have hB : Blk w g cur 5 := h5
    refine ⟨g, rfl, h4, hB.lt, fun j hj => by have := hc j hj; rwa [Nat.zero_add] at this, hB.frozen, fun j x hj => ?_⟩
    refine ⟨by simp [byteCells], .inr ⟨g, c, cur.setIfInBounds j (.int .u8 x), by rw [List.length_set, hn], h4, hB.set j _, by rw [List.length_set]; exact h6, h7, by simpa using h8, ?_⟩⟩
    rw [Array.toList_setIfInBounds, List.length_set, List.take_set, h9]
    simp [byteCells, List.map_set]

theorem short_none {bs : List Int} (h : bs.length = 17) : parseE bs ≠ 0 ∨ isP (parseF bs) = false := by
  by_cases he : parseE bs = 0
  · right
    obtain ⟨h1, h2, h3, h4, h5⟩ := parseE_ok he
    have hat : atOf bs = 12 := by
      unfold atOf at h1 ⊢
      split at h1
      · omega
      · rename_i ht; rw [if_neg ht]
    have hl : (restOf bs).length = 3 := by unfold restOf; rw [hat, List.length_drop, h]
    have hd : (dataOf bs).length ≤ 3 := by
      unfold dataOf
      split
      · rw [List.length_take]; omega
      · omega
    have hf : (parseF bs).data = dataOf bs := by unfold parseF; rw [if_pos he]; rfl
    have : ¬ 4 ≤ (parseF bs).data.length := by rw [hf]; omega
    simp [isP, this]
  · exact .inl he

/-- Whether bytes are read as a pause. -/
def readP (bs : List Int) : Bool := decide (parseE bs = 0) && isP (parseF bs)
theorem built_pf (a : Ad) (q : Int) : built (pf a q) = [1, 128, 194, 0, 0, 1, a.a0, a.a1, a.a2, a.a3, a.a4, a.a5, 136, 8, 0, 1, q / 256, q % 256] ++ List.replicate 42 0 := by
  rw [built_un (by show (-1 : Int) < 0; decide)]
  rfl
theorem un_read {b0 b1 b2 b3 b4 b5 b6 b7 b8 b9 b10 b11 x y : Int} {R : List Int} (ht : ¬ (x = 129 ∧ y = 0)) (hR : R.length = 46) (hx : 0 ≤ x ∧ x ≤ 255) (hy : 0 ≤ y ∧ y ≤ 255) :
    readP (b0 :: b1 :: b2 :: b3 :: b4 :: b5 :: b6 :: b7 :: b8 :: b9 :: b10 :: b11 :: x :: y :: R) = (decide (x = 136 ∧ y = 8) && (decide (nth R 0 = 0) && decide (nth R 1 = 1))) := by
  obtain ⟨bs, eb⟩ : ∃ bs, bs = b0 :: b1 :: b2 :: b3 :: b4 :: b5 :: b6 :: b7 :: b8 :: b9 :: b10 :: b11 :: x :: y :: R := ⟨_, rfl⟩
  rw [← eb]
  have hl : bs.length = 60 := by rw [eb]; simp [hR]
  have h12 : nth bs 12 = x := by rw [eb]; rfl
  have h13 : nth bs 13 = y := by rw [eb]; rfl
  have htg : tagged bs = false := by
    unfold tagged
    rw [h12, h13]
    have : (x == 129 && y == 0) = false := by
      rw [Bool.and_eq_false_iff, beq_eq_false_iff_ne, beq_eq_false_iff_ne]
      by_cases h : x = 129
      · right; exact fun h' => ht ⟨h, h'⟩
      · left; exact h
    rw [this, Bool.and_false]
  have hat : atOf bs = 12 := by unfold atOf; rw [htg]; rfl
  have hty : typOf bs = x * 256 + y := by unfold typOf num; rw [hat, h12, h13]
  have hrs : restOf bs = R := by unfold restOf; rw [hat, eb]; rfl
  have htag : tagOf bs = -1 := by unfold tagOf; rw [htg]; rfl
  have hE := parseE_of (by rw [hat, hl]; decide) hty hrs
  unfold readP
  by_cases h : x = 136 ∧ y = 8
  · obtain ⟨rfl, rfl⟩ := h
    have h0 : parseE bs = 0 := by rw [hE, if_neg (by omega), if_neg (by omega)]
    have hF : parseF bs = whole bs := by unfold parseF; rw [if_pos h0]
    have hd : dataOf bs = R := by unfold dataOf; rw [hty, if_neg (by omega), hrs]
    rw [h0, hF]
    simp [isP, whole, htag, hty, hd, hR]
  · have hne : ¬ (x * 256 + y = 34824) := by omega
    have : isP (parseF bs) = false := by
      by_cases h0 : parseE bs = 0
      · have hF : parseF bs = whole bs := by unfold parseF; rw [if_pos h0]
        rw [hF]
        simp [isP, whole, hty, hne]
      · rw [parseF_err h0]; decide
    rw [this]
    simp [h]
theorem pf_set (a : Ad) (q c : Int) (hc : 0 ≤ c ∧ c ≤ 255) {k : Nat} (h0 : 12 ≤ k) (h1 : k < 16) : readP ((built (pf a q)).set k c) = decide (c = nth (built (pf a q)) k) := by
  rw [built_pf]
  have : k = 12 ∨ k = 13 ∨ k = 14 ∨ k = 15 := by omega
  rcases this with rfl | rfl | rfl | rfl
  · have := un_read (b0 := 1) (b1 := 128) (b2 := 194) (b3 := 0) (b4 := 0) (b5 := 1) (b6 := a.a0) (b7 := a.a1) (b8 := a.a2) (b9 := a.a3) (b10 := a.a4) (b11 := a.a5) (x := c) (y := 8) (R := [0, 1, q / 256, q % 256] ++ List.replicate 42 0) (by omega) (by simp) hc (by decide)
    refine this.trans ?_
    simp [nth]
  · have := un_read (b0 := 1) (b1 := 128) (b2 := 194) (b3 := 0) (b4 := 0) (b5 := 1) (b6 := a.a0) (b7 := a.a1) (b8 := a.a2) (b9 := a.a3) (b10 := a.a4) (b11 := a.a5) (x := 136) (y := c) (R := [0, 1, q / 256, q % 256] ++ List.replicate 42 0) (by omega) (by simp) (by decide) hc
    refine this.trans ?_
    simp [nth]
  · have := un_read (b0 := 1) (b1 := 128) (b2 := 194) (b3 := 0) (b4 := 0) (b5 := 1) (b6 := a.a0) (b7 := a.a1) (b8 := a.a2) (b9 := a.a3) (b10 := a.a4) (b11 := a.a5) (x := 136) (y := 8) (R := [c, 1, q / 256, q % 256] ++ List.replicate 42 0) (by omega) (by simp) (by decide) (by decide)
    refine this.trans ?_
    simp [nth]
  · have := un_read (b0 := 1) (b1 := 128) (b2 := 194) (b3 := 0) (b4 := 0) (b5 := 1) (b6 := a.a0) (b7 := a.a1) (b8 := a.a2) (b9 := a.a3) (b10 := a.a4) (b11 := a.a5) (x := 136) (y := 8) (R := [0, c, q / 256, q % 256] ++ List.replicate 42 0) (by omega) (by simp) (by decide) (by decide)
    refine this.trans ?_
    simp [nth]

/-- Parse, by its answer alone. -/
theorem pparse_r (A : Option Addr) (n c : Nat) (bs : List Int) (w : World) (hn : bs.length = n) (hr : ReadsB w A bs) (hB : Bytes bs) (hc : n ≤ c) (hm : c ≤ maxLen) {r : Bool} (h : readP bs = r) :
    Calls Try.prog 39 #[.slice A n c] w fun e w' => ∃ x, e = .returned (.tuple #[.int .i64 x, .bool r]) ∧ Turns nobody w w' := by
  subst hn
  by_cases h0 : parseE bs = 0
  · cases hp : isP (parseF bs) with
    | true =>
      have : r = true := by rw [← h, readP, h0, hp]; rfl
      subst this
      exact (pparse_yes A c bs w hr hB hc hm h0 rfl hp).mono (by rintro e w' ⟨he, k⟩; exact ⟨_, he, k⟩)
    | false =>
      have : r = false := by rw [← h, readP, hp, Bool.and_false]
      subst this
      exact (pparse_no A c bs w hr hB hc hm h0 rfl (.inr hp)).mono (by rintro e w' ⟨he, k⟩; exact ⟨_, he, k⟩)
  · have : r = false := by rw [← h, readP]; simp [h0]
    subst this
    exact (pparse_no A c bs w hr hB hc hm rfl rfl (.inl h0)).mono (by rintro e w' ⟨he, k⟩; exact ⟨_, he, k⟩)

set_option maxHeartbeats 4000000 in
set_option maxRecDepth 100000 in
theorem pauseOthers_walk (cs : Array Value) (q t c : Int) (w : World) {n : Nat} (hf : Fits Try.prog w n 27 cs.toList) (wq : (Lit.int .u16 q).wf = true) (wt : (Lit.int .u8 t).wf = true) (wc : (Lit.int .u8 c).wf = true) :
    Calls Try.prog 15 #[.agg cs, .int .u16 q, .int .u8 t, .int .u8 c] w fun e w' => e = .returned (.bool true) ∧ Below w.heap.size w w' := by
  obtain ⟨a, rfl, hs⟩ := open_src hf
  obtain ⟨q0, q1⟩ := bounds_u16 wq
  obtain ⟨t0, t1⟩ := bounds_u8 wt
  have bc := bounds_u8 wc
  clear hf wq wt wc
  obtain ⟨bs, eb⟩ : ∃ bs, built (pf a q) = bs := ⟨_, rfl⟩
  obtain ⟨_, _, p3, p4, _, _⟩ := pf_read hs q0 q1 eb
  obtain ⟨K, eK, K0, K1⟩ : ∃ K : Nat, 12 + t % 4 = K ∧ 12 ≤ K ∧ K < 16 := ⟨(12 + t % 4).toNat, by omega, by omega, by omega⟩
  have hR : readP (bs.set K c) = decide (c = nth bs K) := by rw [← eb]; exact pf_set a q c bc K0 K1
  have hS : readP ((bs.set K c).take 17) = false := by
    have h17 : ((bs.set K c).take 17).length = 17 := by rw [List.length_take, List.length_set, p4]; decide
    rcases short_none h17 with h | h
    · unfold readP; simp [h]
    · unfold readP; rw [h, Bool.and_false]
  have hB2 : Bytes (bs.set K c) := by
    intro x hx
    rcases List.mem_or_eq_of_mem_set hx with h | h
    · exact p3 x h
    · rw [h]; exact bc
  have p7 : ((bs.length : Int) != 60) = false := by rw [p4]; rfl
  have hD : (c == nth bs K) = decide (c = nth bs K) := by rw [Bool.eq_iff_iff]; simp
  obtain ⟨r, er⟩ : ∃ r, decide (c = nth bs K) = r := ⟨_, rfl⟩
  rw [er] at hR hD
  have l2 : (bs.set K c).length = bs.length := List.length_set
  have l3 : ((bs.set K c).take 17).length = 17 := by rw [List.length_take, l2, p4]; decide
  have i0 : (0 : Int) ≤ (K : Int) := by omega
  have i1 : (K : Int) < (bs.length : Int) := by omega
  have i2 : K < bs.length := by omega
  have i3 : 17 ≤ bs.length := by omega
  have B0 := Blk.new w #[.int .u8 a.a0, .int .u8 a.a1, .int .u8 a.a2, .int .u8 a.a3, .int .u8 a.a4, .int .u8 a.a5] 27
  have k0 : Turns nobody w (w.alloc (.cells #[.int .u8 a.a0, .int .u8 a.a1, .int .u8 a.a2, .int .u8 a.a3, .int .u8 a.a4, .int .u8 a.a5] 27)) := (by repeat' (first | exact Turns.refl _ _ | assumption | exact Or.inl rfl | exact Or.inr (Nat.le_refl _) | apply Turns.alloc | apply Turns.drew | apply Turns.drewN | apply Turns.setCell | (apply Or.inr; simp; done) | (apply Or.inr; simp; omega) | exact fun _ hh => False.elim hh | exact fun _ hh => Or.inl hh | (intro i hi; right; (try simp only at hi); omega) | (intro i hi; right; simp at hi; omega) | refine Turns.step ?_ (by assumption) ?_))
  replace eb := hide eb
  replace er := hide er
  replace p4 := hide p4
  replace l2 := hide l2
  replace l3 := hide l3
  replace hR := hide hR
  replace hS := hide hS
  go_enter Try.func15, Try.ntmps15
  go_wp2_with fail
  refine (pshown_at _).mono ?_
  rintro e w1 ⟨rfl, k1⟩
  try clear cB0 fB0
  replace B0 := B0.turns k1 (by intro hh; first | exact False.elim hh | ((try simp only at hh); omega) | (simp at hh; omega))
  have cB0 := B0.cell; have fB0 := B0.frozen
  go_wp2_with fail
  refine (pbuild_ok a q _ q0 q1 eb.out).mono ?_
  rintro e w3 ⟨X, k, rfl, o3, k3⟩
  obtain ⟨x1, x2⟩ := o3.caps
  have x3 := x2
  unfold maxLen at x3
  clear cB0 fB0 B0
  obtain ⟨g, rfl, hg, lg, hcell, hfr, hset⟩ := o3.set (by omega)
  have cK := hcell K i2
  have fK := hfr K
  have oS := hset K c i2
  have rS := hide oS.reads
  have i4 : (17 : Int) ≤ (k : Int) := by omega
  clear hcell hfr hset oS o3
  have K3 := (k0.trans k1).trans k3
  have n3 : w.heap.size ≤ g := by have := (k0.trans k1).size; omega
  have K4 : Turns nobody w (w3.setCell ⟨g, K, none⟩ (.int .u8 c)) := K3.setCell (.inr n3) _
  go_wp2_with fail
  refine (pparse_r _ bs.length k (bs.set K c) _ l2.out rS.out hB2 x1 x2 hR.out).mono ?_
  rintro e w5 ⟨y, rfl, k5⟩
  go_wp2_with fail
  refine (pparse_r _ 17 k ((bs.set K c).take 17) _ l3.out ((rS.out.still k5).take 17) (hB2.take 17) (by omega) x2 hS.out).mono ?_
  rintro e w6 ⟨z, rfl, k6⟩
  go_wp2_with fail
  go_returns
  exact ⟨rfl, Turns.none_below ((K4.trans k5).trans k6)⟩

end Go.Proofs.Ytbiplmlkgbicnaa
