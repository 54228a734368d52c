/- Whether two frames are the same; the example at the head of the frames' laws. -/
import Derived.Test.YtbiplmlkgbicnaaFrames
set_option linter.unusedVariables false
namespace Go.Proofs.Ytbiplmlkgbicnaa
open Go.RowKit Go.Proofs.YtbiplmlkgbicnaaW.PrintWords

theorem run_eql_addr_as (a b : Ad) (ha : Bytes a.list) (hb : Bytes b.list) {r : Bool} (h : decide (a = b) = r) (w : World) : (Op.equalIn 10000 27 (.agg #[.int .u8 a.a0, .int .u8 a.a1, .int .u8 a.a2, .int .u8 a.a3, .int .u8 a.a4, .int .u8 a.a5]) (.agg #[.int .u8 b.a0, .int .u8 b.a1, .int .u8 b.a2, .int .u8 b.a3, .int .u8 b.a4, .int .u8 b.a5])).run Try.prog w = .ok r w := h ▸ run_eql_addr a b ha hb w

theorem dec_t {p : Prop} [Decidable p] (h : p) (b : Bool) : (decide p && b) = b := by rw [decide_eq_true h, Bool.true_and]
theorem dec_f {p : Prop} [Decidable p] (h : ¬ p) (b : Bool) : (decide p && b) = false := by rw [decide_eq_false h, Bool.false_and]

set_option maxHeartbeats 1000000 in
set_option maxRecDepth 100000 in
theorem same_law (f g : Frm) (hf : f.Ok) (hg : g.Ok) (A B : Option Addr) (c d : Nat) (w : World) (hr : ReadsB w A f.data) (hs : ReadsB w B g.data) :
    Calls Try.prog 30 #[.agg #[.int .u8 f.d.a0, .int .u8 f.d.a1, .int .u8 f.d.a2, .int .u8 f.d.a3, .int .u8 f.d.a4, .int .u8 f.d.a5, .int .u8 f.s.a0, .int .u8 f.s.a1, .int .u8 f.s.a2, .int .u8 f.s.a3, .int .u8 f.s.a4, .int .u8 f.s.a5, .int .i64 f.tag, .int .i64 f.typ, .slice A f.data.length c], .agg #[.int .u8 g.d.a0, .int .u8 g.d.a1, .int .u8 g.d.a2, .int .u8 g.d.a3, .int .u8 g.d.a4, .int .u8 g.d.a5, .int .u8 g.s.a0, .int .u8 g.s.a1, .int .u8 g.s.a2, .int .u8 g.s.a3, .int .u8 g.s.a4, .int .u8 g.s.a5, .int .i64 g.tag, .int .i64 g.typ, .slice B g.data.length d]] w fun e w' => e = .returned (.bool (decide (f = g))) ∧ Turns nobody w w' := by
  have k0 : Turns nobody w ((w.alloc (.cells #[.int .u8 f.d.a0, .int .u8 f.d.a1, .int .u8 f.d.a2, .int .u8 f.d.a3, .int .u8 f.d.a4, .int .u8 f.d.a5, .int .u8 f.s.a0, .int .u8 f.s.a1, .int .u8 f.s.a2, .int .u8 f.s.a3, .int .u8 f.s.a4, .int .u8 f.s.a5, .int .i64 f.tag, .int .i64 f.typ, .slice A f.data.length c] 39)).alloc (.cells #[.int .u8 g.d.a0, .int .u8 g.d.a1, .int .u8 g.d.a2, .int .u8 g.d.a3, .int .u8 g.d.a4, .int .u8 g.d.a5, .int .u8 g.s.a0, .int .u8 g.s.a1, .int .u8 g.s.a2, .int .u8 g.s.a3, .int .u8 g.s.a4, .int .u8 g.s.a5, .int .i64 g.tag, .int .i64 g.typ, .slice B g.data.length d] 39)) := (by repeat' (first | exact Turns.refl _ _ | assumption | exact Or.inl rfl | exact Or.inr (Nat.le_refl _) | apply Turns.alloc | apply Turns.drew | apply Turns.drewN | apply Turns.setCell | (apply Or.inr; simp; done) | (apply Or.inr; simp; omega) | exact fun _ hh => False.elim hh | exact fun _ hh => Or.inl hh | (intro i hi; right; (try simp only at hi); omega) | (intro i hi; right; simp at hi; omega) | refine Turns.step ?_ (by assumption) ?_))
  have hsame : decide (f = g) = (decide (f.d = g.d) && (decide (f.s = g.s) && (decide (f.tag = g.tag) && (decide (f.typ = g.typ) && decide (f.data = g.data))))) := by
    rw [Bool.eq_iff_iff]
    simp only [decide_eq_true_eq, Bool.and_eq_true]
    constructor
    · rintro rfl; exact ⟨rfl, rfl, rfl, rfl, rfl⟩
    · rintro ⟨h1, h2, h3, h4, h5⟩
      cases f; cases g; simp_all
  rw [hsame]
  clear hsame
  have sr := (hr.still k0).string (P := Try.prog) (src := 22) (dst := 9) (e := 5) (c := c) Try.underlying22 Try.underlying5 Try.underlying9
  have ss := (hs.still k0).string (P := Try.prog) (src := 22) (dst := 9) (e := 5) (c := d) Try.underlying22 Try.underlying5 Try.underlying9
  have se := str_eq hf.data hg.data
  clear hr hs k0
  by_cases ed : f.d = g.d
  · by_cases es : f.s = g.s
    · by_cases et : f.tag = g.tag
      · by_cases ey : f.typ = g.typ
        · by_cases ea : f.data = g.data
          · skip
            have hB : (decide (f.d = g.d) && (decide (f.s = g.s) && (decide (f.tag = g.tag) && (decide (f.typ = g.typ) && decide (f.data = g.data))))) = true := (by rw [dec_t ed, dec_t es, dec_t et, dec_t ey, decide_eq_true ea])
            rw [hB]
            clear hB
            have qd := run_eql_addr_as f.d g.d hf.d hg.d (r := true) (by first | rfl | (simp [ed]; done)) ((w.alloc (.cells #[.int .u8 f.d.a0, .int .u8 f.d.a1, .int .u8 f.d.a2, .int .u8 f.d.a3, .int .u8 f.d.a4, .int .u8 f.d.a5, .int .u8 f.s.a0, .int .u8 f.s.a1, .int .u8 f.s.a2, .int .u8 f.s.a3, .int .u8 f.s.a4, .int .u8 f.s.a5, .int .i64 f.tag, .int .i64 f.typ, .slice A f.data.length c] 39)).alloc (.cells #[.int .u8 g.d.a0, .int .u8 g.d.a1, .int .u8 g.d.a2, .int .u8 g.d.a3, .int .u8 g.d.a4, .int .u8 g.d.a5, .int .u8 g.s.a0, .int .u8 g.s.a1, .int .u8 g.s.a2, .int .u8 g.s.a3, .int .u8 g.s.a4, .int .u8 g.s.a5, .int .i64 g.tag, .int .i64 g.typ, .slice B g.data.length d] 39))
            have qs := run_eql_addr_as f.s g.s hf.s hg.s (r := true) (by first | rfl | (simp [es]; done)) ((w.alloc (.cells #[.int .u8 f.d.a0, .int .u8 f.d.a1, .int .u8 f.d.a2, .int .u8 f.d.a3, .int .u8 f.d.a4, .int .u8 f.d.a5, .int .u8 f.s.a0, .int .u8 f.s.a1, .int .u8 f.s.a2, .int .u8 f.s.a3, .int .u8 f.s.a4, .int .u8 f.s.a5, .int .i64 f.tag, .int .i64 f.typ, .slice A f.data.length c] 39)).alloc (.cells #[.int .u8 g.d.a0, .int .u8 g.d.a1, .int .u8 g.d.a2, .int .u8 g.d.a3, .int .u8 g.d.a4, .int .u8 g.d.a5, .int .u8 g.s.a0, .int .u8 g.s.a1, .int .u8 g.s.a2, .int .u8 g.s.a3, .int .u8 g.s.a4, .int .u8 g.s.a5, .int .i64 g.tag, .int .i64 g.typ, .slice B g.data.length d] 39))
            have qt : (f.tag == g.tag) = true := by first | (simp [et]; done) | rfl
            have qy : (f.typ == g.typ) = true := by first | (simp [ey]; done) | rfl
            have qa : ((strOfNums f.data).toList == (strOfNums g.data).toList) = true := by first | exact se | (rw [se]; simp [ea]; done)
            clear se ed es et ey ea
            go_enter Try.func30, Try.ntmps30
            go_wp2_with fail
            go_returns
            exact ⟨rfl, (by repeat' (first | exact Turns.refl _ _ | assumption | exact Or.inl rfl | exact Or.inr (Nat.le_refl _) | apply Turns.alloc | apply Turns.drew | apply Turns.drewN | apply Turns.setCell | (apply Or.inr; simp; done) | (apply Or.inr; simp; omega) | exact fun _ hh => False.elim hh | exact fun _ hh => Or.inl hh | (intro i hi; right; (try simp only at hi); omega) | (intro i hi; right; simp at hi; omega) | refine Turns.step ?_ (by assumption) ?_))⟩
          · skip
            have hB : (decide (f.d = g.d) && (decide (f.s = g.s) && (decide (f.tag = g.tag) && (decide (f.typ = g.typ) && decide (f.data = g.data))))) = false := (by rw [dec_t ed, dec_t es, dec_t et, dec_t ey, decide_eq_false ea])
            rw [hB]
            clear hB
            have qd := run_eql_addr_as f.d g.d hf.d hg.d (r := true) (by first | rfl | (simp [ed]; done)) ((w.alloc (.cells #[.int .u8 f.d.a0, .int .u8 f.d.a1, .int .u8 f.d.a2, .int .u8 f.d.a3, .int .u8 f.d.a4, .int .u8 f.d.a5, .int .u8 f.s.a0, .int .u8 f.s.a1, .int .u8 f.s.a2, .int .u8 f.s.a3, .int .u8 f.s.a4, .int .u8 f.s.a5, .int .i64 f.tag, .int .i64 f.typ, .slice A f.data.length c] 39)).alloc (.cells #[.int .u8 g.d.a0, .int .u8 g.d.a1, .int .u8 g.d.a2, .int .u8 g.d.a3, .int .u8 g.d.a4, .int .u8 g.d.a5, .int .u8 g.s.a0, .int .u8 g.s.a1, .int .u8 g.s.a2, .int .u8 g.s.a3, .int .u8 g.s.a4, .int .u8 g.s.a5, .int .i64 g.tag, .int .i64 g.typ, .slice B g.data.length d] 39))
            have qs := run_eql_addr_as f.s g.s hf.s hg.s (r := true) (by first | rfl | (simp [es]; done)) ((w.alloc (.cells #[.int .u8 f.d.a0, .int .u8 f.d.a1, .int .u8 f.d.a2, .int .u8 f.d.a3, .int .u8 f.d.a4, .int .u8 f.d.a5, .int .u8 f.s.a0, .int .u8 f.s.a1, .int .u8 f.s.a2, .int .u8 f.s.a3, .int .u8 f.s.a4, .int .u8 f.s.a5, .int .i64 f.tag, .int .i64 f.typ, .slice A f.data.length c] 39)).alloc (.cells #[.int .u8 g.d.a0, .int .u8 g.d.a1, .int .u8 g.d.a2, .int .u8 g.d.a3, .int .u8 g.d.a4, .int .u8 g.d.a5, .int .u8 g.s.a0, .int .u8 g.s.a1, .int .u8 g.s.a2, .int .u8 g.s.a3, .int .u8 g.s.a4, .int .u8 g.s.a5, .int .i64 g.tag, .int .i64 g.typ, .slice B g.data.length d] 39))
            have qt : (f.tag == g.tag) = true := by first | (simp [et]; done) | rfl
            have qy : (f.typ == g.typ) = true := by first | (simp [ey]; done) | rfl
            have qa : ((strOfNums f.data).toList == (strOfNums g.data).toList) = false := by first | exact se | (rw [se]; simp [ea]; done)
            clear se ed es et ey ea
            go_enter Try.func30, Try.ntmps30
            go_wp2_with fail
            go_returns
            exact ⟨rfl, (by repeat' (first | exact Turns.refl _ _ | assumption | exact Or.inl rfl | exact Or.inr (Nat.le_refl _) | apply Turns.alloc | apply Turns.drew | apply Turns.drewN | apply Turns.setCell | (apply Or.inr; simp; done) | (apply Or.inr; simp; omega) | exact fun _ hh => False.elim hh | exact fun _ hh => Or.inl hh | (intro i hi; right; (try simp only at hi); omega) | (intro i hi; right; simp at hi; omega) | refine Turns.step ?_ (by assumption) ?_))⟩
        · have ea : True := trivial
          have hB : (decide (f.d = g.d) && (decide (f.s = g.s) && (decide (f.tag = g.tag) && (decide (f.typ = g.typ) && decide (f.data = g.data))))) = false := (by rw [dec_t ed, dec_t es, dec_t et, dec_f ey])
          rw [hB]
          clear hB
          have qd := run_eql_addr_as f.d g.d hf.d hg.d (r := true) (by first | rfl | (simp [ed]; done)) ((w.alloc (.cells #[.int .u8 f.d.a0, .int .u8 f.d.a1, .int .u8 f.d.a2, .int .u8 f.d.a3, .int .u8 f.d.a4, .int .u8 f.d.a5, .int .u8 f.s.a0, .int .u8 f.s.a1, .int .u8 f.s.a2, .int .u8 f.s.a3, .int .u8 f.s.a4, .int .u8 f.s.a5, .int .i64 f.tag, .int .i64 f.typ, .slice A f.data.length c] 39)).alloc (.cells #[.int .u8 g.d.a0, .int .u8 g.d.a1, .int .u8 g.d.a2, .int .u8 g.d.a3, .int .u8 g.d.a4, .int .u8 g.d.a5, .int .u8 g.s.a0, .int .u8 g.s.a1, .int .u8 g.s.a2, .int .u8 g.s.a3, .int .u8 g.s.a4, .int .u8 g.s.a5, .int .i64 g.tag, .int .i64 g.typ, .slice B g.data.length d] 39))
          have qs := run_eql_addr_as f.s g.s hf.s hg.s (r := true) (by first | rfl | (simp [es]; done)) ((w.alloc (.cells #[.int .u8 f.d.a0, .int .u8 f.d.a1, .int .u8 f.d.a2, .int .u8 f.d.a3, .int .u8 f.d.a4, .int .u8 f.d.a5, .int .u8 f.s.a0, .int .u8 f.s.a1, .int .u8 f.s.a2, .int .u8 f.s.a3, .int .u8 f.s.a4, .int .u8 f.s.a5, .int .i64 f.tag, .int .i64 f.typ, .slice A f.data.length c] 39)).alloc (.cells #[.int .u8 g.d.a0, .int .u8 g.d.a1, .int .u8 g.d.a2, .int .u8 g.d.a3, .int .u8 g.d.a4, .int .u8 g.d.a5, .int .u8 g.s.a0, .int .u8 g.s.a1, .int .u8 g.s.a2, .int .u8 g.s.a3, .int .u8 g.s.a4, .int .u8 g.s.a5, .int .i64 g.tag, .int .i64 g.typ, .slice B g.data.length d] 39))
          have qt : (f.tag == g.tag) = true := by first | (simp [et]; done) | rfl
          have qy : (f.typ == g.typ) = false := by first | (simp [ey]; done) | rfl
          have qa : ((strOfNums f.data).toList == (strOfNums g.data).toList) = (decide (f.data = g.data)) := by first | exact se | (rw [se]; simp [ea]; done)
          clear se ed es et ey ea
          go_enter Try.func30, Try.ntmps30
          go_wp2_with fail
          go_returns
          exact ⟨rfl, (by repeat' (first | exact Turns.refl _ _ | assumption | exact Or.inl rfl | exact Or.inr (Nat.le_refl _) | apply Turns.alloc | apply Turns.drew | apply Turns.drewN | apply Turns.setCell | (apply Or.inr; simp; done) | (apply Or.inr; simp; omega) | exact fun _ hh => False.elim hh | exact fun _ hh => Or.inl hh | (intro i hi; right; (try simp only at hi); omega) | (intro i hi; right; simp at hi; omega) | refine Turns.step ?_ (by assumption) ?_))⟩
      · have ey : True := trivial
        have ea : True := trivial
        have hB : (decide (f.d = g.d) && (decide (f.s = g.s) && (decide (f.tag = g.tag) && (decide (f.typ = g.typ) && decide (f.data = g.data))))) = false := (by rw [dec_t ed, dec_t es, dec_f et])
        rw [hB]
        clear hB
        have qd := run_eql_addr_as f.d g.d hf.d hg.d (r := true) (by first | rfl | (simp [ed]; done)) ((w.alloc (.cells #[.int .u8 f.d.a0, .int .u8 f.d.a1, .int .u8 f.d.a2, .int .u8 f.d.a3, .int .u8 f.d.a4, .int .u8 f.d.a5, .int .u8 f.s.a0, .int .u8 f.s.a1, .int .u8 f.s.a2, .int .u8 f.s.a3, .int .u8 f.s.a4, .int .u8 f.s.a5, .int .i64 f.tag, .int .i64 f.typ, .slice A f.data.length c] 39)).alloc (.cells #[.int .u8 g.d.a0, .int .u8 g.d.a1, .int .u8 g.d.a2, .int .u8 g.d.a3, .int .u8 g.d.a4, .int .u8 g.d.a5, .int .u8 g.s.a0, .int .u8 g.s.a1, .int .u8 g.s.a2, .int .u8 g.s.a3, .int .u8 g.s.a4, .int .u8 g.s.a5, .int .i64 g.tag, .int .i64 g.typ, .slice B g.data.length d] 39))
        have qs := run_eql_addr_as f.s g.s hf.s hg.s (r := true) (by first | rfl | (simp [es]; done)) ((w.alloc (.cells #[.int .u8 f.d.a0, .int .u8 f.d.a1, .int .u8 f.d.a2, .int .u8 f.d.a3, .int .u8 f.d.a4, .int .u8 f.d.a5, .int .u8 f.s.a0, .int .u8 f.s.a1, .int .u8 f.s.a2, .int .u8 f.s.a3, .int .u8 f.s.a4, .int .u8 f.s.a5, .int .i64 f.tag, .int .i64 f.typ, .slice A f.data.length c] 39)).alloc (.cells #[.int .u8 g.d.a0, .int .u8 g.d.a1, .int .u8 g.d.a2, .int .u8 g.d.a3, .int .u8 g.d.a4, .int .u8 g.d.a5, .int .u8 g.s.a0, .int .u8 g.s.a1, .int .u8 g.s.a2, .int .u8 g.s.a3, .int .u8 g.s.a4, .int .u8 g.s.a5, .int .i64 g.tag, .int .i64 g.typ, .slice B g.data.length d] 39))
        have qt : (f.tag == g.tag) = false := by first | (simp [et]; done) | rfl
        have qy : (f.typ == g.typ) = (decide (f.typ = g.typ)) := by first | (simp [ey]; done) | rfl
        have qa : ((strOfNums f.data).toList == (strOfNums g.data).toList) = (decide (f.data = g.data)) := by first | exact se | (rw [se]; simp [ea]; done)
        clear se ed es et ey ea
        go_enter Try.func30, Try.ntmps30
        go_wp2_with fail
        go_returns
        exact ⟨rfl, (by repeat' (first | exact Turns.refl _ _ | assumption | exact Or.inl rfl | exact Or.inr (Nat.le_refl _) | apply Turns.alloc | apply Turns.drew | apply Turns.drewN | apply Turns.setCell | (apply Or.inr; simp; done) | (apply Or.inr; simp; omega) | exact fun _ hh => False.elim hh | exact fun _ hh => Or.inl hh | (intro i hi; right; (try simp only at hi); omega) | (intro i hi; right; simp at hi; omega) | refine Turns.step ?_ (by assumption) ?_))⟩
    · have et : True := trivial
      have ey : True := trivial
      have ea : True := trivial
      have hB : (decide (f.d = g.d) && (decide (f.s = g.s) && (decide (f.tag = g.tag) && (decide (f.typ = g.typ) && decide (f.data = g.data))))) = false := (by rw [dec_t ed, dec_f es])
      rw [hB]
      clear hB
      have qd := run_eql_addr_as f.d g.d hf.d hg.d (r := true) (by first | rfl | (simp [ed]; done)) ((w.alloc (.cells #[.int .u8 f.d.a0, .int .u8 f.d.a1, .int .u8 f.d.a2, .int .u8 f.d.a3, .int .u8 f.d.a4, .int .u8 f.d.a5, .int .u8 f.s.a0, .int .u8 f.s.a1, .int .u8 f.s.a2, .int .u8 f.s.a3, .int .u8 f.s.a4, .int .u8 f.s.a5, .int .i64 f.tag, .int .i64 f.typ, .slice A f.data.length c] 39)).alloc (.cells #[.int .u8 g.d.a0, .int .u8 g.d.a1, .int .u8 g.d.a2, .int .u8 g.d.a3, .int .u8 g.d.a4, .int .u8 g.d.a5, .int .u8 g.s.a0, .int .u8 g.s.a1, .int .u8 g.s.a2, .int .u8 g.s.a3, .int .u8 g.s.a4, .int .u8 g.s.a5, .int .i64 g.tag, .int .i64 g.typ, .slice B g.data.length d] 39))
      have qs := run_eql_addr_as f.s g.s hf.s hg.s (r := false) (by first | rfl | (simp [es]; done)) ((w.alloc (.cells #[.int .u8 f.d.a0, .int .u8 f.d.a1, .int .u8 f.d.a2, .int .u8 f.d.a3, .int .u8 f.d.a4, .int .u8 f.d.a5, .int .u8 f.s.a0, .int .u8 f.s.a1, .int .u8 f.s.a2, .int .u8 f.s.a3, .int .u8 f.s.a4, .int .u8 f.s.a5, .int .i64 f.tag, .int .i64 f.typ, .slice A f.data.length c] 39)).alloc (.cells #[.int .u8 g.d.a0, .int .u8 g.d.a1, .int .u8 g.d.a2, .int .u8 g.d.a3, .int .u8 g.d.a4, .int .u8 g.d.a5, .int .u8 g.s.a0, .int .u8 g.s.a1, .int .u8 g.s.a2, .int .u8 g.s.a3, .int .u8 g.s.a4, .int .u8 g.s.a5, .int .i64 g.tag, .int .i64 g.typ, .slice B g.data.length d] 39))
      have qt : (f.tag == g.tag) = (decide (f.tag = g.tag)) := by first | (simp [et]; done) | rfl
      have qy : (f.typ == g.typ) = (decide (f.typ = g.typ)) := by first | (simp [ey]; done) | rfl
      have qa : ((strOfNums f.data).toList == (strOfNums g.data).toList) = (decide (f.data = g.data)) := by first | exact se | (rw [se]; simp [ea]; done)
      clear se ed es et ey ea
      go_enter Try.func30, Try.ntmps30
      go_wp2_with fail
      go_returns
      exact ⟨rfl, (by repeat' (first | exact Turns.refl _ _ | assumption | exact Or.inl rfl | exact Or.inr (Nat.le_refl _) | apply Turns.alloc | apply Turns.drew | apply Turns.drewN | apply Turns.setCell | (apply Or.inr; simp; done) | (apply Or.inr; simp; omega) | exact fun _ hh => False.elim hh | exact fun _ hh => Or.inl hh | (intro i hi; right; (try simp only at hi); omega) | (intro i hi; right; simp at hi; omega) | refine Turns.step ?_ (by assumption) ?_))⟩
  · have es : True := trivial
    have et : True := trivial
    have ey : True := trivial
    have ea : True := trivial
    have hB : (decide (f.d = g.d) && (decide (f.s = g.s) && (decide (f.tag = g.tag) && (decide (f.typ = g.typ) && decide (f.data = g.data))))) = false := (by rw [dec_f ed])
    rw [hB]
    clear hB
    have qd := run_eql_addr_as f.d g.d hf.d hg.d (r := false) (by first | rfl | (simp [ed]; done)) ((w.alloc (.cells #[.int .u8 f.d.a0, .int .u8 f.d.a1, .int .u8 f.d.a2, .int .u8 f.d.a3, .int .u8 f.d.a4, .int .u8 f.d.a5, .int .u8 f.s.a0, .int .u8 f.s.a1, .int .u8 f.s.a2, .int .u8 f.s.a3, .int .u8 f.s.a4, .int .u8 f.s.a5, .int .i64 f.tag, .int .i64 f.typ, .slice A f.data.length c] 39)).alloc (.cells #[.int .u8 g.d.a0, .int .u8 g.d.a1, .int .u8 g.d.a2, .int .u8 g.d.a3, .int .u8 g.d.a4, .int .u8 g.d.a5, .int .u8 g.s.a0, .int .u8 g.s.a1, .int .u8 g.s.a2, .int .u8 g.s.a3, .int .u8 g.s.a4, .int .u8 g.s.a5, .int .i64 g.tag, .int .i64 g.typ, .slice B g.data.length d] 39))
    have qs := run_eql_addr_as f.s g.s hf.s hg.s (r := (decide (f.s = g.s))) (by first | rfl | (simp [es]; done)) ((w.alloc (.cells #[.int .u8 f.d.a0, .int .u8 f.d.a1, .int .u8 f.d.a2, .int .u8 f.d.a3, .int .u8 f.d.a4, .int .u8 f.d.a5, .int .u8 f.s.a0, .int .u8 f.s.a1, .int .u8 f.s.a2, .int .u8 f.s.a3, .int .u8 f.s.a4, .int .u8 f.s.a5, .int .i64 f.tag, .int .i64 f.typ, .slice A f.data.length c] 39)).alloc (.cells #[.int .u8 g.d.a0, .int .u8 g.d.a1, .int .u8 g.d.a2, .int .u8 g.d.a3, .int .u8 g.d.a4, .int .u8 g.d.a5, .int .u8 g.s.a0, .int .u8 g.s.a1, .int .u8 g.s.a2, .int .u8 g.s.a3, .int .u8 g.s.a4, .int .u8 g.s.a5, .int .i64 g.tag, .int .i64 g.typ, .slice B g.data.length d] 39))
    have qt : (f.tag == g.tag) = (decide (f.tag = g.tag)) := by first | (simp [et]; done) | rfl
    have qy : (f.typ == g.typ) = (decide (f.typ = g.typ)) := by first | (simp [ey]; done) | rfl
    have qa : ((strOfNums f.data).toList == (strOfNums g.data).toList) = (decide (f.data = g.data)) := by first | exact se | (rw [se]; simp [ea]; done)
    clear se ed es et ey ea
    go_enter Try.func30, Try.ntmps30
    go_wp2_with fail
    go_returns
    exact ⟨rfl, (by repeat' (first | exact Turns.refl _ _ | assumption | exact Or.inl rfl | exact Or.inr (Nat.le_refl _) | apply Turns.alloc | apply Turns.drew | apply Turns.drewN | apply Turns.setCell | (apply Or.inr; simp; done) | (apply Or.inr; simp; omega) | exact fun _ hh => False.elim hh | exact fun _ hh => Or.inl hh | (intro i hi; right; (try simp only at hi); omega) | (intro i hi; right; simp at hi; omega) | refine Turns.step ?_ (by assumption) ?_))⟩

def exA : Frm := ⟨⟨0, 0, 0, 0, 0, 0⟩, ⟨0, 0, 0, 0, 0, 0⟩, -1, 1536, [7]⟩
def exB : Frm := ⟨⟨0, 0, 0, 0, 0, 0⟩, ⟨0, 0, 0, 0, 0, 0⟩, -1, 1, [7]⟩
def exN : Frm := normF exA
theorem exA_bad : bad exA = 0 := by decide
theorem exB_bad : bad exB = 0 := by decide
theorem exB_norm : normF exB = exB := by decide
theorem exA_ok : exA.Ok := ⟨by simp [Bytes, exA, Ad.list], by simp [Bytes, exA, Ad.list], by simp [Bytes, exA]⟩
theorem exB_ok : exB.Ok := ⟨by simp [Bytes, exB, Ad.list], by simp [Bytes, exB, Ad.list], by simp [Bytes, exB]⟩
theorem exN_data : exN.data.length = 46 ∧ nth exN.data 0 = 7 ∧ exN.tag = -1 := by decide

set_option maxHeartbeats 2000000 in
set_option maxRecDepth 100000 in
theorem shown_at (w : World) : Calls Try.prog 27 #[] w fun e w' => e = .returned (.bool true) ∧ Turns nobody w w' := by
  obtain ⟨bs, eb⟩ : ∃ bs, built exA = bs := ⟨_, rfl⟩
  obtain ⟨cs, ec⟩ : ∃ cs, built exB = cs := ⟨_, rfl⟩
  have p1 : parseE bs = 0 := eb ▸ (parse_built exA_bad).1
  have p2 : parseF bs = exN := eb ▸ (parse_built exA_bad).2
  have p3 : Bytes bs := eb ▸ built_bytes exA_ok exA_bad
  have p4 : bs.length = 60 := by rw [← eb]; decide
  have p5 : sizeOf' bs = 0 := eb ▸ size_built exA_bad
  have q1 : parseE cs = 0 := ec ▸ (parse_built exB_bad).1
  have q2 : parseF cs = exB := by rw [← ec, (parse_built exB_bad).2, exB_norm]
  have q3 : Bytes cs := ec ▸ built_bytes exB_ok exB_bad
  obtain ⟨n1, n2, n3⟩ := exN_data
  have p4' : ((bs.length : Int) == 60) = true := by rw [p4]; rfl
  have n1' : ((exN.data.length : Int) == 46) = true := by rw [n1]; rfl
  have n3' : (exN.tag == -1) = true := by rw [n3]; rfl
  have n4 : (0 : Int) < (exN.data.length : Int) := by omega
  have m1 : ((exB.data.length : Int) == 1) = true := rfl
  replace eb := hide eb
  replace ec := hide ec
  replace p1 := hide p1
  replace p2 := hide p2
  replace p3 := hide p3
  replace p4 := hide p4
  replace p5 := hide p5
  replace q1 := hide q1
  replace q2 := hide q2
  replace q3 := hide q3
  replace n1 := hide n1
  replace n2 := hide n2
  replace n3 := hide n3
  go_enter Try.func27, Try.ntmps27
  go_wp2_with fail
  refine (build_as exA _ 1 _ exA_bad (.inr ⟨_, _, rfl, fun j u hj => ?_⟩) eb.out).mono ?_
  · rw [Nat.zero_add, (Blk.new w _ 5).cell j]
    simpa [byteCells, exA] using hj
  rintro e w1 ⟨X, k, rfl, o1, k1⟩
  replace k1 := ((Turns.refl nobody w).alloc _).trans k1
  obtain ⟨hc1, hc2⟩ := o1.caps
  go_wp2_with fail
  refine (parse_as X k bs _ o1.reads p3.out hc1 hc2 p1.out p2.out).mono ?_
  rintro e w2 ⟨Y, l, rfl, o2, k2⟩
  have r1 := hide (o1.reads.still k2)
  obtain ⟨b2, f2, rfl, lt2, hcell⟩ := o2.reads.nth (by have := n1.out; omega)
  have d0 := hcell 0 (by have := n1.out; omega)
  rw [Nat.add_zero, n2.out] at d0
  clear hcell
  have K2 := k1.trans k2
  go_wp2_with fail
  obtain ⟨D0, D1⟩ := boxes2 w2 #[.int .u8 exN.d.a0, .int .u8 exN.d.a1, .int .u8 exN.d.a2, .int .u8 exN.d.a3, .int .u8 exN.d.a4, .int .u8 exN.d.a5, .int .u8 exN.s.a0, .int .u8 exN.s.a1, .int .u8 exN.s.a2, .int .u8 exN.s.a3, .int .u8 exN.s.a4, .int .u8 exN.s.a5, .int .i64 exN.tag, .int .i64 exN.typ, .slice (some ⟨b2, f2, none⟩) exN.data.length l] #[.int .u8 7] 39 5
  have kk : Turns nobody w2 ((w2.alloc (.cells #[.int .u8 exN.d.a0, .int .u8 exN.d.a1, .int .u8 exN.d.a2, .int .u8 exN.d.a3, .int .u8 exN.d.a4, .int .u8 exN.d.a5, .int .u8 exN.s.a0, .int .u8 exN.s.a1, .int .u8 exN.s.a2, .int .u8 exN.s.a3, .int .u8 exN.s.a4, .int .u8 exN.s.a5, .int .i64 exN.tag, .int .i64 exN.typ, .slice (some ⟨b2, f2, none⟩) exN.data.length l] 39)).alloc (.cells #[.int .u8 7] 5)) := (by repeat' (first | exact Turns.refl _ _ | assumption | exact Or.inl rfl | exact Or.inr (Nat.le_refl _) | apply Turns.alloc | apply Turns.drew | apply Turns.drewN | apply Turns.setCell | (apply Or.inr; simp; done) | (apply Or.inr; simp; omega) | exact fun _ hh => False.elim hh | exact fun _ hh => Or.inl hh | (intro i hi; right; (try simp only at hi); omega) | (intro i hi; right; simp at hi; omega) | refine Turns.step ?_ (by assumption) ?_))
  refine (build_as exB _ 1 _ exB_bad (.inr ⟨_, _, rfl, fun j u hj => ?_⟩) ec.out).mono ?_
  · rw [Nat.zero_add, D1.cell j]
    simpa [byteCells, exB] using hj
  rintro e w3 ⟨Z, m, rfl, o3, k3⟩
  replace kk := kk.trans k3
  replace D0 := D0.turns k3 (by intro hh; first | exact False.elim hh | ((try simp only at hh); omega) | (simp at hh; omega))
  clear D1
  obtain ⟨hz1, hz2⟩ := o3.caps
  go_wp2_with fail
  refine (parse_as Z m cs _ o3.reads q3.out hz1 hz2 q1.out q2.out).mono ?_
  rintro e w4 ⟨V, n, rfl, o4, k4⟩
  replace kk := kk.trans k4
  replace D0 := D0.turns k4 (by intro hh; first | exact False.elim hh | ((try simp only at hh); omega) | (simp at hh; omega))
  have c0 : w4.cell? ⟨b2, f2, none⟩ = some (.int .u8 7) := (kk.none_below.cell (by exact lt2)).trans d0
  have cD := D0.cell
  have fD := D0.frozen
  have lD := D0.lt
  have r2 := hide (r1.out.still kk)
  have K4 := K2.trans kk
  have lb2 : b2 < w4.heap.size := block_lt_of_cell c0
  clear r1 d0
  go_wp2_with fail
  refine (size_as X k bs _ (r2.out.still ((Turns.refl nobody w4).alloc _)) (by omega) p5.out).mono ?_
  rintro e w5 ⟨rfl, k5⟩
  go_wp2_with fail
  go_returns
  exact ⟨rfl, (K4.alloc _).trans k5⟩

end Go.Proofs.Ytbiplmlkgbicnaa
