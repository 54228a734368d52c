/- A pause frame, built and read. -/
import Derived.Test.YtbiplmlkgbicnaaTicks
import Derived.Laws.Cover3
set_option linter.unusedVariables false
namespace Go.Proofs.Ytbiplmlkgbicnaa
open Go.RowKit Go.Proofs.YtbiplmlkgbicnaaW.PrintWords

theorem Try.info27 : (Try.prog.info? 27).map (·.size) = some 6 := by kernel_rfl
theorem ret_addr {fn : Func} {p : Tmp} (h : fn.results = #[.cell p 27]) (tmps : Array Value) (w : World) (g : Nat) (cs : Array Value)
    (hp : tmps.getD p undef = .pointer (some ⟨g, 0, none⟩)) (hg : Blk w g cs 27) (hs : cs.size = 6) : (results fn tmps).run Try.prog w = .ok (.agg cs) w := by
  have hl := run_loadVar_row (P := Try.prog) w g 27 27 cs (0, 0) _ hg Try.underlying27 rfl (by rw [Try.info27, hs])
  have hp' : tmps[p]?.getD undef = .pointer (some ⟨g, 0, none⟩) := by simpa using hp
  simp [results, h, asAddr, hp', hl]

set_option maxHeartbeats 400000 in
theorem group_law (w : World) : Calls Try.prog 68 #[] w fun e w' => e = .returned (.agg #[.int .u8 1, .int .u8 128, .int .u8 194, .int .u8 0, .int .u8 0, .int .u8 1]) ∧ Turns nobody w w' := by
  go_enter Try.func68, Try.ntmps68
  go_wp2
  refine bodyPost_ret (ret_addr rfl _ _ w.heap.size #[.int .u8 1, .int .u8 128, .int .u8 194, .int .u8 0, .int .u8 0, .int .u8 1] rfl (Blk.new w _ 27) rfl) rfl ?_
  exact ⟨rfl, (by repeat' (first | exact Turns.refl _ _ | assumption | exact Or.inl rfl | exact Or.inr (Nat.le_refl _) | apply Turns.alloc | apply Turns.drew | apply Turns.drewN | apply Turns.setCell | (apply Or.inr; simp; done) | (apply Or.inr; simp; omega) | exact fun _ hh => False.elim hh | exact fun _ hh => Or.inl hh | (intro i hi; right; (try simp only at hi); omega) | (intro i hi; right; simp at hi; omega) | refine Turns.step ?_ (by assumption) ?_))⟩

/-- The pause frame of src, of q quanta. -/
def pf (src : Ad) (q : Int) : Frm := ⟨⟨1, 128, 194, 0, 0, 1⟩, src, -1, 34824, [0, 1, q / 256, q % 256]⟩
theorem pf_bad (src : Ad) (q : Int) : bad (pf src q) = 0 := ok_bad (Int.le_refl _) (by show (-1 : Int) ≤ 65535; decide) (.inr (by show 1536 ≤ (34824 : Int) ∧ (34824 : Int) ≤ 65535 ∧ (34824 : Int) ≠ 33024; decide)) (by simp [pf])
theorem pf_ok {src : Ad} {q : Int} (h : Bytes src.list) (h0 : 0 ≤ q) (h1 : q ≤ 65535) : (pf src q).Ok := by
  refine ⟨by simp [Bytes, pf, Ad.list], h, ?_⟩
  intro x hx
  simp [pf] at hx
  rcases hx with rfl | rfl | rfl | rfl <;> omega
theorem rd4 (w : World) {g : Nat} (hg : w.heap.size = g) (x y : Int) : ReadsB (w.alloc (.cells #[.int .u8 0, .int .u8 1, .int .u8 x, .int .u8 y] 5)) (some ⟨g, 0, none⟩) [0, 1, x, y] := by
  subst hg
  refine .inr ⟨_, _, rfl, fun j u hj => ?_⟩
  rw [Nat.zero_add, (Blk.new w _ 5).cell j]
  simpa [byteCells] using hj

set_option maxHeartbeats 400000 in
theorem pbuild_bad (src : Ad) (q : Int) (w : World) (h : q < 0 ∨ 65535 < q) : Calls Try.prog 37 #[.agg #[.int .u8 src.a0, .int .u8 src.a1, .int .u8 src.a2, .int .u8 src.a3, .int .u8 src.a4, .int .u8 src.a5], .int .i64 q] w fun e w' => e = .returned (.tuple #[.slice none 0 0, .int .i64 1]) ∧ Turns nobody w w' := by
  rcases h with h | h
  · go_enter Try.func37, Try.ntmps37
    go_wp2
    go_returns
    exact ⟨rfl, (by repeat' (first | exact Turns.refl _ _ | assumption | exact Or.inl rfl | exact Or.inr (Nat.le_refl _) | apply Turns.alloc | apply Turns.drew | apply Turns.drewN | apply Turns.setCell | (apply Or.inr; simp; done) | (apply Or.inr; simp; omega) | exact fun _ hh => False.elim hh | exact fun _ hh => Or.inl hh | (intro i hi; right; (try simp only at hi); omega) | (intro i hi; right; simp at hi; omega) | refine Turns.step ?_ (by assumption) ?_))⟩
  · go_enter Try.func37, Try.ntmps37
    go_wp2
    go_returns
    exact ⟨rfl, (by repeat' (first | exact Turns.refl _ _ | assumption | exact Or.inl rfl | exact Or.inr (Nat.le_refl _) | apply Turns.alloc | apply Turns.drew | apply Turns.drewN | apply Turns.setCell | (apply Or.inr; simp; done) | (apply Or.inr; simp; omega) | exact fun _ hh => False.elim hh | exact fun _ hh => Or.inl hh | (intro i hi; right; (try simp only at hi); omega) | (intro i hi; right; simp at hi; omega) | refine Turns.step ?_ (by assumption) ?_))⟩
set_option maxHeartbeats 2000000 in
set_option maxRecDepth 100000 in
theorem pbuild_ok (src : Ad) (q : Int) (w : World) (h0 : 0 ≤ q) (h1 : q ≤ 65535) {bs : List Int} (eb : built (pf src q) = bs) :
    Calls Try.prog 37 #[.agg #[.int .u8 src.a0, .int .u8 src.a1, .int .u8 src.a2, .int .u8 src.a3, .int .u8 src.a4, .int .u8 src.a5], .int .i64 q] w fun e w' => ∃ X k, e = .returned (.tuple #[.slice X bs.length k, .int .i64 0]) ∧ OwnB w' w.heap.size (.slice X bs.length k) bs ∧ Turns nobody w w' := by
  have B0 := Blk.new w #[.int .u8 src.a0, .int .u8 src.a1, .int .u8 src.a2, .int .u8 src.a3, .int .u8 src.a4, .int .u8 src.a5] 27
  have k0 : Turns nobody w (w.alloc (.cells #[.int .u8 src.a0, .int .u8 src.a1, .int .u8 src.a2, .int .u8 src.a3, .int .u8 src.a4, .int .u8 src.a5] 27)) := (by repeat' (first | exact Turns.refl _ _ | assumption | exact Or.inl rfl | exact Or.inr (Nat.le_refl _) | apply Turns.alloc | apply Turns.drew | apply Turns.drewN | apply Turns.setCell | (apply Or.inr; simp; done) | (apply Or.inr; simp; omega) | exact fun _ hh => False.elim hh | exact fun _ hh => Or.inl hh | (intro i hi; right; (try simp only at hi); omega) | (intro i hi; right; simp at hi; omega) | refine Turns.step ?_ (by assumption) ?_))
  replace eb := hide eb
  have hw1 : IntKind.u8.wrap (q / 256) = q / 256 := by rw [IntKind.wrap_u8']; omega
  have hw2 : IntKind.u8.wrap q = q % 256 := by rw [IntKind.wrap_u8']
  go_enter Try.func37, Try.ntmps37
  go_wp2_with fail
  go_region_held3 (fun w' => w'.cell? ⟨w.heap.size, 0, none⟩ = some (.int .u8 src.a0) ∧ w'.cell? ⟨w.heap.size, 1, none⟩ = some (.int .u8 src.a1) ∧ w'.cell? ⟨w.heap.size, 2, none⟩ = some (.int .u8 src.a2) ∧ w'.cell? ⟨w.heap.size, 3, none⟩ = some (.int .u8 src.a3) ∧ w'.cell? ⟨w.heap.size, 4, none⟩ = some (.int .u8 src.a4) ∧ w'.cell? ⟨w.heap.size, 5, none⟩ = some (.int .u8 src.a5))
    ((exact ⟨(B0.turns (S := nobody) (by repeat' (first | exact Turns.refl _ _ | assumption | exact Or.inl rfl | exact Or.inr (Nat.le_refl _) | apply Turns.alloc | apply Turns.drew | apply Turns.drewN | apply Turns.setCell | (apply Or.inr; simp; done) | (apply Or.inr; simp; omega) | exact fun _ hh => False.elim hh | exact fun _ hh => Or.inl hh | (intro i hi; right; (try simp only at hi); omega) | (intro i hi; right; simp at hi; omega) | refine Turns.step ?_ (by assumption) ?_)) (by intro hh; first | exact False.elim hh | ((try simp only at hh); omega) | (simp at hh; omega))).cell 0, (B0.turns (S := nobody) (by repeat' (first | exact Turns.refl _ _ | assumption | exact Or.inl rfl | exact Or.inr (Nat.le_refl _) | apply Turns.alloc | apply Turns.drew | apply Turns.drewN | apply Turns.setCell | (apply Or.inr; simp; done) | (apply Or.inr; simp; omega) | exact fun _ hh => False.elim hh | exact fun _ hh => Or.inl hh | (intro i hi; right; (try simp only at hi); omega) | (intro i hi; right; simp at hi; omega) | refine Turns.step ?_ (by assumption) ?_)) (by intro hh; first | exact False.elim hh | ((try simp only at hh); omega) | (simp at hh; omega))).cell 1, (B0.turns (S := nobody) (by repeat' (first | exact Turns.refl _ _ | assumption | exact Or.inl rfl | exact Or.inr (Nat.le_refl _) | apply Turns.alloc | apply Turns.drew | apply Turns.drewN | apply Turns.setCell | (apply Or.inr; simp; done) | (apply Or.inr; simp; omega) | exact fun _ hh => False.elim hh | exact fun _ hh => Or.inl hh | (intro i hi; right; (try simp only at hi); omega) | (intro i hi; right; simp at hi; omega) | refine Turns.step ?_ (by assumption) ?_)) (by intro hh; first | exact False.elim hh | ((try simp only at hh); omega) | (simp at hh; omega))).cell 2, (B0.turns (S := nobody) (by repeat' (first | exact Turns.refl _ _ | assumption | exact Or.inl rfl | exact Or.inr (Nat.le_refl _) | apply Turns.alloc | apply Turns.drew | apply Turns.drewN | apply Turns.setCell | (apply Or.inr; simp; done) | (apply Or.inr; simp; omega) | exact fun _ hh => False.elim hh | exact fun _ hh => Or.inl hh | (intro i hi; right; (try simp only at hi); omega) | (intro i hi; right; simp at hi; omega) | refine Turns.step ?_ (by assumption) ?_)) (by intro hh; first | exact False.elim hh | ((try simp only at hh); omega) | (simp at hh; omega))).cell 3, (B0.turns (S := nobody) (by repeat' (first | exact Turns.refl _ _ | assumption | exact Or.inl rfl | exact Or.inr (Nat.le_refl _) | apply Turns.alloc | apply Turns.drew | apply Turns.drewN | apply Turns.setCell | (apply Or.inr; simp; done) | (apply Or.inr; simp; omega) | exact fun _ hh => False.elim hh | exact fun _ hh => Or.inl hh | (intro i hi; right; (try simp only at hi); omega) | (intro i hi; right; simp at hi; omega) | refine Turns.step ?_ (by assumption) ?_)) (by intro hh; first | exact False.elim hh | ((try simp only at hh); omega) | (simp at hh; omega))).cell 4, (B0.turns (S := nobody) (by repeat' (first | exact Turns.refl _ _ | assumption | exact Or.inl rfl | exact Or.inr (Nat.le_refl _) | apply Turns.alloc | apply Turns.drew | apply Turns.drewN | apply Turns.setCell | (apply Or.inr; simp; done) | (apply Or.inr; simp; omega) | exact fun _ hh => False.elim hh | exact fun _ hh => Or.inl hh | (intro i hi; right; (try simp only at hi); omega) | (intro i hi; right; simp at hi; omega) | refine Turns.step ?_ (by assumption) ?_)) (by intro hh; first | exact False.elim hh | ((try simp only at hh); omega) | (simp at hh; omega))).cell 5⟩)) (first
    | (go_at_call 68; refine (group_law _).mono ?_; rintro e wg ⟨rfl, kg⟩)
    | (go_at_call 26; refine (build_as (pf src q) _ 4 _ (pf_bad src q) (by first | exact rd4 _ (by simp) _ _ | exact (rd4 ((w.alloc (.cells #[.int .u8 src.a0, .int .u8 src.a1, .int .u8 src.a2, .int .u8 src.a3, .int .u8 src.a4, .int .u8 src.a5] 27)).drew) (by simp) _ _).still kg) eb.out).mono ?_; rintro e wf ⟨X, k, rfl, of, kf⟩)
    | fail)
  all_goals go_wp2_with fail
  all_goals go_returns
  all_goals
    refine ⟨X, k, rfl, of.lower (by have := kg.size; simp at this ⊢; omega), (by repeat' (first | exact Turns.refl _ _ | assumption | exact Or.inl rfl | exact Or.inr (Nat.le_refl _) | apply Turns.alloc | apply Turns.drew | apply Turns.drewN | apply Turns.setCell | (apply Or.inr; simp; done) | (apply Or.inr; simp; omega) | exact fun _ hh => False.elim hh | exact fun _ hh => Or.inl hh | (intro i hi; right; (try simp only at hi); omega) | (intro i hi; right; simp at hi; omega) | refine Turns.step ?_ (by assumption) ?_))⟩

/-- Whether a frame asks for a pause. -/
def isP (f : Frm) : Bool := decide (f.tag = -1) && (decide (f.typ = 34824) && (decide (4 ≤ f.data.length) && (decide (nth f.data 0 = 0) && decide (nth f.data 1 = 1))))
def pq (f : Frm) : Int := num f.data 2

set_option maxRecDepth 100000 in
theorem run_eql_two (x y : Int) (hx : 0 ≤ x ∧ x ≤ 255) (hy : 0 ≤ y ∧ y ≤ 255) {r : Bool} (hr : (decide (x = 0) && decide (y = 1)) = r) (w : World) : (Op.equalIn 10000 117 (.agg #[.int .u8 x, .int .u8 y]) (.agg #[.int .u8 0, .int .u8 1])).run Try.prog w = .ok r w := by
  have h := run_equalIn_bytes (P := Try.prog) w 9998 117 5 2 Try.underlying117 Try.underlying5 Try.size5 [UInt8.ofNat x.toNat, UInt8.ofNat y.toNat] [0, 1] rfl rfl
  have e : ([UInt8.ofNat x.toNat, UInt8.ofNat y.toNat].map Extern.Stop.cell).toArray = #[.int .u8 x, .int .u8 y] := by
    simp [Extern.Stop.cell]
    omega
  have e2 : (([0, 1] : List UInt8).map Extern.Stop.cell).toArray = #[.int .u8 0, .int .u8 1] := rfl
  rw [e, e2] at h
  rw [h, ← hr]
  congr 1
  rw [Bool.eq_iff_iff]
  simp [← UInt8.toNat_inj]
  omega

set_option maxHeartbeats 2000000 in
set_option maxRecDepth 100000 in
theorem pparse_yes (A : Option Addr) (c : Nat) (bs : List Int) (w : World) (hr : ReadsB w A bs) (hB : Bytes bs) (hc : bs.length ≤ c) (hm : c ≤ maxLen) {f : Frm} (he : parseE bs = 0) (hf : parseF bs = f) (hp : isP f = true) :
    Calls Try.prog 39 #[.slice A bs.length c] w fun e w' => e = .returned (.tuple #[.int .i64 (pq f), .bool true]) ∧ Turns nobody w w' := by
  have fB : Bytes f.data := by
    have h1 := whole_ok hB
    have : f = whole bs := by rw [← hf]; unfold parseF; rw [if_pos he]
    rw [this]; exact h1.data
  have b0 := fB.at_ 0
  have b1 := fB.at_ 1
  have b2 := fB.at_ 2
  have b3 := fB.at_ 3
  simp only [isP, Bool.and_eq_true, decide_eq_true_eq] at hp
  obtain ⟨h1, h2, h3, h4, h5⟩ := hp
  have e1 : (f.tag != -1) = false := by simp [h1]
  have e2 : (f.typ != 34824) = false := by simp [h2]
  have e3 : ¬ ((f.data.length : Int) < 4) := by omega
  have i1 : (2 : Int) < (f.data.length : Int) := by omega
  have i2 : (3 : Int) < (f.data.length : Int) := by omega
  replace he := hide he
  replace hf := hide hf
  replace h1 := hide h1
  replace h2 := hide h2
  replace h4 := hide h4
  replace h5 := hide h5
  go_enter Try.func39, Try.ntmps39
  go_wp2_with fail
  refine (parse_as A c bs _ hr hB hc hm he.out hf.out).mono ?_
  rintro e w1 ⟨X, k, rfl, o1, k1⟩
  obtain ⟨x1, x2⟩ := o1.caps
  obtain ⟨b, o, rfl, lt, hcell⟩ := o1.reads.nth (by omega)
  have c0 := hcell 0 (by omega)
  have c1 := hcell 1 (by omega)
  have c2 := hcell 2 (by omega)
  have c3 := hcell 3 (by omega)
  rw [h4.out, Nat.add_zero] at c0
  rw [h5.out] at c1
  clear hcell
  have i3 : (2 : Int) ≤ (k : Int) := by omega
  have q1 := run_eql_two 0 1 (by decide) (by decide) (r := true) rfl
  have harr := fun W c => run_arrayAt (P := Try.prog) W 117 5 2 (some ⟨b, o, none⟩) 2 c Try.underlying117 (Nat.le_refl _)
  go_wp2_with fail
  go_quiet (fail)
  go_wp2_with fail
  go_returns
  rw [or_bytes _ _ b2 b3]
  exact ⟨rfl, (k1.alloc _).drewN nq⟩

set_option maxHeartbeats 2000000 in
set_option maxRecDepth 100000 in
theorem pparse_no (A : Option Addr) (c : Nat) (bs : List Int) (w : World) (hr : ReadsB w A bs) (hB : Bytes bs) (hc : bs.length ≤ c) (hm : c ≤ maxLen) {f : Frm} {er : Int} (he : parseE bs = er) (hf : parseF bs = f) (hp : er ≠ 0 ∨ isP f = false) :
    Calls Try.prog 39 #[.slice A bs.length c] w fun e w' => e = .returned (.tuple #[.int .i64 0, .bool false]) ∧ Turns nobody w w' := by
  by_cases h0 : er = 0
  · subst h0
    have fB : Bytes f.data := by
      have h1 := whole_ok hB
      have : f = whole bs := by rw [← hf]; unfold parseF; rw [if_pos he]
      rw [this]; exact h1.data
    have hp : isP f = false := by rcases hp with h | h; exact absurd rfl h; exact h
    have b0 := fB.at_ 0
    have b1 := fB.at_ 1
    replace he := hide he
    replace hf := hide hf
    by_cases h1 : f.tag = -1
    · by_cases h2 : f.typ = 34824
      · have e1 : (f.tag != -1) = false := by simp [h1]
        have e2 : (f.typ != 34824) = false := by simp [h2]
        by_cases h3 : 4 ≤ f.data.length
        · have hd : (decide (nth f.data 0 = 0) && decide (nth f.data 1 = 1)) = false := by
            simp only [isP, h1, h2, h3, decide_true, Bool.true_and] at hp
            exact hp
          have q1 := run_eql_two (nth f.data 0) (nth f.data 1) b0 b1 (r := false) hd
          have e3 : ¬ ((f.data.length : Int) < 4) := by omega
          replace h1 := hide h1
          replace h2 := hide h2
          replace hp := hide hp
          replace hd := hide hd
          go_enter Try.func39, Try.ntmps39
          go_wp2_with fail
          refine (parse_as A c bs _ hr hB hc hm he.out hf.out).mono ?_
          rintro e w1 ⟨X, k, rfl, o1, k1⟩
          obtain ⟨x1, x2⟩ := o1.caps
          obtain ⟨b, o, rfl, lt, hcell⟩ := o1.reads.nth (by omega)
          have c0 := hcell 0 (by omega)
          have c1 := hcell 1 (by omega)
          rw [Nat.add_zero] at c0
          clear hcell
          have i3 : (2 : Int) ≤ (k : Int) := by omega
          have harr := fun W c => run_arrayAt (P := Try.prog) W 117 5 2 (some ⟨b, o, none⟩) 2 c Try.underlying117 (Nat.le_refl _)
          go_wp2_with fail
          go_returns
          exact ⟨rfl, k1.alloc _⟩
        · have e3 : (f.data.length : Int) < 4 := by omega
          replace h1 := hide h1
          replace h2 := hide h2
          clear hp
          go_enter Try.func39, Try.ntmps39
          go_wp2_with fail
          refine (parse_as A c bs _ hr hB hc hm he.out hf.out).mono ?_
          rintro e w1 ⟨X, k, rfl, o1, k1⟩
          go_wp2_with fail
          go_returns
          exact ⟨rfl, k1.alloc _⟩
      · have e1 : (f.tag != -1) = false := by simp [h1]
        have e2 : (f.typ != 34824) = true := by simp [h2]
        replace h1 := hide h1
        clear hp h2
        go_enter Try.func39, Try.ntmps39
        go_wp2_with fail
        refine (parse_as A c bs _ hr hB hc hm he.out hf.out).mono ?_
        rintro e w1 ⟨X, k, rfl, o1, k1⟩
        go_wp2_with fail
        go_returns
        exact ⟨rfl, k1.alloc _⟩
    · have e1 : (f.tag != -1) = true := by simp [h1]
      clear hp h1
      go_enter Try.func39, Try.ntmps39
      go_wp2_with fail
      refine (parse_as A c bs _ hr hB hc hm he.out hf.out).mono ?_
      rintro e w1 ⟨X, k, rfl, o1, k1⟩
      go_wp2_with fail
      go_returns
      exact ⟨rfl, k1.alloc _⟩
  · have e0 : (er != 0) = true := bne_iff_ne.2 h0
    replace he := hide he
    replace hf := hide hf
    replace h0 := hide h0
    clear hp
    go_enter Try.func39, Try.ntmps39
    go_wp2_with fail
    refine (parse_as A c bs _ hr hB hc hm he.out hf.out).mono ?_
    rintro e w1 ⟨X, k, rfl, o1, k1⟩
    go_wp2_with fail
    go_returns
    exact ⟨rfl, k1.alloc _⟩

end Go.Proofs.Ytbiplmlkgbicnaa
