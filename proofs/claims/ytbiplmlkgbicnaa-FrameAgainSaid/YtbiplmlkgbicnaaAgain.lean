/- The walk of the law 'FrameAgain'. -/
import Derived.Test.YtbiplmlkgbicnaaOpenF
import Derived.Test.YtbiplmlkgbicnaaAgainP
set_option linter.unusedVariables false
namespace Go.Proofs.Ytbiplmlkgbicnaa
open Go.RowKit Go.Proofs.YtbiplmlkgbicnaaW.PrintWords

theorem str_n {w : World} {A : Option Addr} {n c : Nat} {bs : List Int} (h : ReadsB w A bs) (e : bs.length = n) : (convert 22 9 (.slice A n c)).run Try.prog w = .ok (.string (strOfNums bs)) w := by
  subst e
  exact h.string Try.underlying22 Try.underlying5 Try.underlying9

set_option maxHeartbeats 4000000 in
set_option maxRecDepth 100000 in
theorem frameAgain_walk (A : Option Addr) (len c : Nat) (w : World) {n : Nat} (hf : Fits Try.prog w n 22 [.slice A len c]) :
    Calls Try.prog 7 #[.slice A len c] w fun e w' => e = .returned (.bool true) ∧ Below w.heap.size w w' := by
  obtain ⟨bs, rfl, hr, hB, hc, hm⟩ := open_bytes hf Try.underlying22 Try.underlying5 Try.cells5
  have hm' := hm
  unfold maxLen at hm'
  clear hf
  by_cases hp : parseE bs = 0
  · obtain ⟨f, ef⟩ : ∃ f, whole bs = f := ⟨_, rfl⟩
    obtain ⟨H, eH⟩ : ∃ H : Nat, H = headLen f.tag + f.data.length := ⟨_, rfl⟩
    obtain ⟨cs, eb⟩ : ∃ cs, built f = cs := ⟨_, rfl⟩
    obtain ⟨a1, a2, a3, a4⟩ := again hB hp (H := H) (by rw [ef]; exact eH)
    have g1 : bad f = 0 := ef ▸ whole_bad hB hp
    have okf : f.Ok := ef ▸ whole_ok hB
    rw [ef, eb] at a2 a3
    rw [ef] at a4
    have p2 : parseF bs = f := by rw [← ef]; unfold parseF; rw [if_pos hp]
    have p5 : 60 ≤ cs.length := by rw [← eb, built_length]; omega
    obtain ⟨t1, t2, t3, t4, t5, t6⟩ := bad_ok g1
    have q1 : ((strOfNums (cs.take H)).toList == (strOfNums (bs.take H)).toList) = true := by rw [a3]; simp
    have p1 := hide hp
    replace p2 := hide p2
    replace g1 := hide g1
    replace eb := hide eb
    replace hr := hide hr
    have hX : Hid ((cs.take H).length = H) := hide (by rw [List.length_take]; omega)
    have hb2 : Hid ((bs.take H).length = H) := hide (by rw [List.length_take]; omega)
    clear hp a3 ef okf t3
    by_cases ht : f.tag = -1
    · have e1 : (f.tag != -1) = false := by simp [ht]
      have eH' : (14 : Int) + (f.data.length : Int) = (H : Int) := by unfold headLen at eH; rw [if_neg (by omega)] at eH; omega
      clear eH ht
      by_cases hy : 1536 ≤ f.typ
      · have eL : ((H : Int) == (bs.length : Int)) = true := by simp [a4 hy]
        have y1 : ¬ (f.typ < 1536) := by omega
        clear a4
        go_enter Try.func7, Try.ntmps7
        go_wp2_with fail
        refine (shown_at _).mono ?_
        rintro e w1 ⟨rfl, k1⟩
        go_wp2_with fail
        refine (parse_as A c bs _ (hr.out.still k1) hB hc hm p1.out p2.out).mono ?_
        rintro e w2 ⟨Y, l, rfl, o2, k2⟩
        replace k1 := k1.trans k2
        have P0 := Blk.new w2 #[.int .u8 f.d.a0, .int .u8 f.d.a1, .int .u8 f.d.a2, .int .u8 f.d.a3, .int .u8 f.d.a4, .int .u8 f.d.a5, .int .u8 f.s.a0, .int .u8 f.s.a1, .int .u8 f.s.a2, .int .u8 f.s.a3, .int .u8 f.s.a4, .int .u8 f.s.a5, .int .i64 f.tag, .int .i64 f.typ, .slice Y f.data.length l] 39
        have rY := hide o2.reads
        clear o2 k2
        have j2 : Turns nobody w2 (w2.alloc (.cells #[.int .u8 f.d.a0, .int .u8 f.d.a1, .int .u8 f.d.a2, .int .u8 f.d.a3, .int .u8 f.d.a4, .int .u8 f.d.a5, .int .u8 f.s.a0, .int .u8 f.s.a1, .int .u8 f.s.a2, .int .u8 f.s.a3, .int .u8 f.s.a4, .int .u8 f.s.a5, .int .i64 f.tag, .int .i64 f.typ, .slice Y f.data.length l] 39)) := (by repeat' (first | exact Turns.refl _ _ | assumption | exact Or.inl rfl | exact Or.inr (Nat.le_refl _) | apply Turns.alloc | apply Turns.drew | apply Turns.drewN | apply Turns.setCell | (apply Or.inr; simp; done) | (apply Or.inr; simp; omega) | exact fun _ hh => False.elim hh | exact fun _ hh => Or.inl hh | (intro i hi; right; (try simp only at hi); omega) | (intro i hi; right; simp at hi; omega) | refine Turns.step ?_ (by assumption) ?_))
        go_wp2_with fail
        refine (build_as f Y l _ g1.out (rY.out.still j2) eb.out).mono ?_
        rintro e w3 ⟨X, k, rfl, o3, k3⟩
        obtain ⟨x1, x2⟩ := o3.caps
        replace P0 := P0.turns k3 (by intro hh; first | exact False.elim hh | ((try simp only at hh); omega) | (simp at hh; omega))
        have cP := P0.cell
        have fP := P0.frozen
        have lP := P0.lt
        replace k1 := (k1.trans j2).trans k3
        have rX := hide o3.reads
        clear o3 k3
        have kd : ∀ n, Turns nobody w3 (w3.drewN n) := fun n => (by repeat' (first | exact Turns.refl _ _ | assumption | exact Or.inl rfl | exact Or.inr (Nat.le_refl _) | apply Turns.alloc | apply Turns.drew | apply Turns.drewN | apply Turns.setCell | (apply Or.inr; simp; done) | (apply Or.inr; simp; omega) | exact fun _ hh => False.elim hh | exact fun _ hh => Or.inl hh | (intro i hi; right; (try simp only at hi); omega) | (intro i hi; right; simp at hi; omega) | refine Turns.step ?_ (by assumption) ?_))
        have sX := fun n => str_n (c := k) ((rX.out.still (kd n)).take H) hX.out
        have sB := fun n => str_n (c := c) (((hr.out.still k1).still (kd n)).take H) hb2.out
        have i0 : (0 : Int) ≤ (H : Int) := by omega
        have i1 : (H : Int) ≤ (k : Int) := by omega
        have i2 : (H : Int) ≤ (c : Int) := by omega
        go_wp2_with fail
        go_quiet (fail)
        go_wp2_with fail
        go_returns
        exact ⟨rfl, Turns.none_below (k1.drewN _)⟩
      · have y1 : f.typ < 1536 := by omega
        clear a4
        go_enter Try.func7, Try.ntmps7
        go_wp2_with fail
        refine (shown_at _).mono ?_
        rintro e w1 ⟨rfl, k1⟩
        go_wp2_with fail
        refine (parse_as A c bs _ (hr.out.still k1) hB hc hm p1.out p2.out).mono ?_
        rintro e w2 ⟨Y, l, rfl, o2, k2⟩
        replace k1 := k1.trans k2
        have P0 := Blk.new w2 #[.int .u8 f.d.a0, .int .u8 f.d.a1, .int .u8 f.d.a2, .int .u8 f.d.a3, .int .u8 f.d.a4, .int .u8 f.d.a5, .int .u8 f.s.a0, .int .u8 f.s.a1, .int .u8 f.s.a2, .int .u8 f.s.a3, .int .u8 f.s.a4, .int .u8 f.s.a5, .int .i64 f.tag, .int .i64 f.typ, .slice Y f.data.length l] 39
        have rY := hide o2.reads
        clear o2 k2
        have j2 : Turns nobody w2 (w2.alloc (.cells #[.int .u8 f.d.a0, .int .u8 f.d.a1, .int .u8 f.d.a2, .int .u8 f.d.a3, .int .u8 f.d.a4, .int .u8 f.d.a5, .int .u8 f.s.a0, .int .u8 f.s.a1, .int .u8 f.s.a2, .int .u8 f.s.a3, .int .u8 f.s.a4, .int .u8 f.s.a5, .int .i64 f.tag, .int .i64 f.typ, .slice Y f.data.length l] 39)) := (by repeat' (first | exact Turns.refl _ _ | assumption | exact Or.inl rfl | exact Or.inr (Nat.le_refl _) | apply Turns.alloc | apply Turns.drew | apply Turns.drewN | apply Turns.setCell | (apply Or.inr; simp; done) | (apply Or.inr; simp; omega) | exact fun _ hh => False.elim hh | exact fun _ hh => Or.inl hh | (intro i hi; right; (try simp only at hi); omega) | (intro i hi; right; simp at hi; omega) | refine Turns.step ?_ (by assumption) ?_))
        go_wp2_with fail
        refine (build_as f Y l _ g1.out (rY.out.still j2) eb.out).mono ?_
        rintro e w3 ⟨X, k, rfl, o3, k3⟩
        obtain ⟨x1, x2⟩ := o3.caps
        replace P0 := P0.turns k3 (by intro hh; first | exact False.elim hh | ((try simp only at hh); omega) | (simp at hh; omega))
        have cP := P0.cell
        have fP := P0.frozen
        have lP := P0.lt
        replace k1 := (k1.trans j2).trans k3
        have rX := hide o3.reads
        clear o3 k3
        have kd : ∀ n, Turns nobody w3 (w3.drewN n) := fun n => (by repeat' (first | exact Turns.refl _ _ | assumption | exact Or.inl rfl | exact Or.inr (Nat.le_refl _) | apply Turns.alloc | apply Turns.drew | apply Turns.drewN | apply Turns.setCell | (apply Or.inr; simp; done) | (apply Or.inr; simp; omega) | exact fun _ hh => False.elim hh | exact fun _ hh => Or.inl hh | (intro i hi; right; (try simp only at hi); omega) | (intro i hi; right; simp at hi; omega) | refine Turns.step ?_ (by assumption) ?_))
        have sX := fun n => str_n (c := k) ((rX.out.still (kd n)).take H) hX.out
        have sB := fun n => str_n (c := c) (((hr.out.still k1).still (kd n)).take H) hb2.out
        have i0 : (0 : Int) ≤ (H : Int) := by omega
        have i1 : (H : Int) ≤ (k : Int) := by omega
        have i2 : (H : Int) ≤ (c : Int) := by omega
        go_wp2_with fail
        go_quiet (fail)
        go_wp2_with fail
        go_returns
        exact ⟨rfl, Turns.none_below (k1.drewN _)⟩
    · have e1 : (f.tag != -1) = true := by simp [ht]
      have eH' : (14 : Int) + (f.data.length : Int) + 4 = (H : Int) := by unfold headLen at eH; rw [if_pos (by omega)] at eH; omega
      clear eH ht
      by_cases hy : 1536 ≤ f.typ
      · have eL : ((H : Int) == (bs.length : Int)) = true := by simp [a4 hy]
        have y1 : ¬ (f.typ < 1536) := by omega
        clear a4
        go_enter Try.func7, Try.ntmps7
        go_wp2_with fail
        refine (shown_at _).mono ?_
        rintro e w1 ⟨rfl, k1⟩
        go_wp2_with fail
        refine (parse_as A c bs _ (hr.out.still k1) hB hc hm p1.out p2.out).mono ?_
        rintro e w2 ⟨Y, l, rfl, o2, k2⟩
        replace k1 := k1.trans k2
        have P0 := Blk.new w2 #[.int .u8 f.d.a0, .int .u8 f.d.a1, .int .u8 f.d.a2, .int .u8 f.d.a3, .int .u8 f.d.a4, .int .u8 f.d.a5, .int .u8 f.s.a0, .int .u8 f.s.a1, .int .u8 f.s.a2, .int .u8 f.s.a3, .int .u8 f.s.a4, .int .u8 f.s.a5, .int .i64 f.tag, .int .i64 f.typ, .slice Y f.data.length l] 39
        have rY := hide o2.reads
        clear o2 k2
        have j2 : Turns nobody w2 (w2.alloc (.cells #[.int .u8 f.d.a0, .int .u8 f.d.a1, .int .u8 f.d.a2, .int .u8 f.d.a3, .int .u8 f.d.a4, .int .u8 f.d.a5, .int .u8 f.s.a0, .int .u8 f.s.a1, .int .u8 f.s.a2, .int .u8 f.s.a3, .int .u8 f.s.a4, .int .u8 f.s.a5, .int .i64 f.tag, .int .i64 f.typ, .slice Y f.data.length l] 39)) := (by repeat' (first | exact Turns.refl _ _ | assumption | exact Or.inl rfl | exact Or.inr (Nat.le_refl _) | apply Turns.alloc | apply Turns.drew | apply Turns.drewN | apply Turns.setCell | (apply Or.inr; simp; done) | (apply Or.inr; simp; omega) | exact fun _ hh => False.elim hh | exact fun _ hh => Or.inl hh | (intro i hi; right; (try simp only at hi); omega) | (intro i hi; right; simp at hi; omega) | refine Turns.step ?_ (by assumption) ?_))
        go_wp2_with fail
        refine (build_as f Y l _ g1.out (rY.out.still j2) eb.out).mono ?_
        rintro e w3 ⟨X, k, rfl, o3, k3⟩
        obtain ⟨x1, x2⟩ := o3.caps
        replace P0 := P0.turns k3 (by intro hh; first | exact False.elim hh | ((try simp only at hh); omega) | (simp at hh; omega))
        have cP := P0.cell
        have fP := P0.frozen
        have lP := P0.lt
        replace k1 := (k1.trans j2).trans k3
        have rX := hide o3.reads
        clear o3 k3
        have kd : ∀ n, Turns nobody w3 (w3.drewN n) := fun n => (by repeat' (first | exact Turns.refl _ _ | assumption | exact Or.inl rfl | exact Or.inr (Nat.le_refl _) | apply Turns.alloc | apply Turns.drew | apply Turns.drewN | apply Turns.setCell | (apply Or.inr; simp; done) | (apply Or.inr; simp; omega) | exact fun _ hh => False.elim hh | exact fun _ hh => Or.inl hh | (intro i hi; right; (try simp only at hi); omega) | (intro i hi; right; simp at hi; omega) | refine Turns.step ?_ (by assumption) ?_))
        have sX := fun n => str_n (c := k) ((rX.out.still (kd n)).take H) hX.out
        have sB := fun n => str_n (c := c) (((hr.out.still k1).still (kd n)).take H) hb2.out
        have i0 : (0 : Int) ≤ (H : Int) := by omega
        have i1 : (H : Int) ≤ (k : Int) := by omega
        have i2 : (H : Int) ≤ (c : Int) := by omega
        go_wp2_with fail
        go_quiet (fail)
        go_wp2_with fail
        go_returns
        exact ⟨rfl, Turns.none_below (k1.drewN _)⟩
      · have y1 : f.typ < 1536 := by omega
        clear a4
        go_enter Try.func7, Try.ntmps7
        go_wp2_with fail
        refine (shown_at _).mono ?_
        rintro e w1 ⟨rfl, k1⟩
        go_wp2_with fail
        refine (parse_as A c bs _ (hr.out.still k1) hB hc hm p1.out p2.out).mono ?_
        rintro e w2 ⟨Y, l, rfl, o2, k2⟩
        replace k1 := k1.trans k2
        have P0 := Blk.new w2 #[.int .u8 f.d.a0, .int .u8 f.d.a1, .int .u8 f.d.a2, .int .u8 f.d.a3, .int .u8 f.d.a4, .int .u8 f.d.a5, .int .u8 f.s.a0, .int .u8 f.s.a1, .int .u8 f.s.a2, .int .u8 f.s.a3, .int .u8 f.s.a4, .int .u8 f.s.a5, .int .i64 f.tag, .int .i64 f.typ, .slice Y f.data.length l] 39
        have rY := hide o2.reads
        clear o2 k2
        have j2 : Turns nobody w2 (w2.alloc (.cells #[.int .u8 f.d.a0, .int .u8 f.d.a1, .int .u8 f.d.a2, .int .u8 f.d.a3, .int .u8 f.d.a4, .int .u8 f.d.a5, .int .u8 f.s.a0, .int .u8 f.s.a1, .int .u8 f.s.a2, .int .u8 f.s.a3, .int .u8 f.s.a4, .int .u8 f.s.a5, .int .i64 f.tag, .int .i64 f.typ, .slice Y f.data.length l] 39)) := (by repeat' (first | exact Turns.refl _ _ | assumption | exact Or.inl rfl | exact Or.inr (Nat.le_refl _) | apply Turns.alloc | apply Turns.drew | apply Turns.drewN | apply Turns.setCell | (apply Or.inr; simp; done) | (apply Or.inr; simp; omega) | exact fun _ hh => False.elim hh | exact fun _ hh => Or.inl hh | (intro i hi; right; (try simp only at hi); omega) | (intro i hi; right; simp at hi; omega) | refine Turns.step ?_ (by assumption) ?_))
        go_wp2_with fail
        refine (build_as f Y l _ g1.out (rY.out.still j2) eb.out).mono ?_
        rintro e w3 ⟨X, k, rfl, o3, k3⟩
        obtain ⟨x1, x2⟩ := o3.caps
        replace P0 := P0.turns k3 (by intro hh; first | exact False.elim hh | ((try simp only at hh); omega) | (simp at hh; omega))
        have cP := P0.cell
        have fP := P0.frozen
        have lP := P0.lt
        replace k1 := (k1.trans j2).trans k3
        have rX := hide o3.reads
        clear o3 k3
        have kd : ∀ n, Turns nobody w3 (w3.drewN n) := fun n => (by repeat' (first | exact Turns.refl _ _ | assumption | exact Or.inl rfl | exact Or.inr (Nat.le_refl _) | apply Turns.alloc | apply Turns.drew | apply Turns.drewN | apply Turns.setCell | (apply Or.inr; simp; done) | (apply Or.inr; simp; omega) | exact fun _ hh => False.elim hh | exact fun _ hh => Or.inl hh | (intro i hi; right; (try simp only at hi); omega) | (intro i hi; right; simp at hi; omega) | refine Turns.step ?_ (by assumption) ?_))
        have sX := fun n => str_n (c := k) ((rX.out.still (kd n)).take H) hX.out
        have sB := fun n => str_n (c := c) (((hr.out.still k1).still (kd n)).take H) hb2.out
        have i0 : (0 : Int) ≤ (H : Int) := by omega
        have i1 : (H : Int) ≤ (k : Int) := by omega
        have i2 : (H : Int) ≤ (c : Int) := by omega
        go_wp2_with fail
        go_quiet (fail)
        go_wp2_with fail
        go_returns
        exact ⟨rfl, Turns.none_below (k1.drewN _)⟩
  · have p1 := hide (rfl : parseE bs = parseE bs)
    obtain ⟨er, he⟩ : ∃ er, parseE bs = er := ⟨_, rfl⟩
    have p2 := hide (parseF_err hp)
    rw [he] at hp
    have hb' : (er == 0) = false := beq_eq_false_iff_ne.2 hp
    have hb2 : (er != 0) = true := bne_iff_ne.2 hp
    clear p1
    replace hp := hide hp
    replace he := hide he
    replace hr := hide hr
    go_enter Try.func7, Try.ntmps7
    go_wp2_with fail
    refine (shown_at _).mono ?_
    rintro e w1 ⟨rfl, k1⟩
    go_wp2_with fail
    refine (parse_as A c bs _ (hr.out.still k1) hB hc hm he.out p2.out).mono ?_
    rintro e w2 ⟨Y, l, rfl, o2, k2⟩
    replace k1 := k1.trans k2
    go_wp2_with fail
    go_returns
    exact ⟨rfl, Turns.none_below (k1.alloc _)⟩

end Go.Proofs.Ytbiplmlkgbicnaa
