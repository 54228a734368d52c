/- The walk of the law 'PauseTicks'. -/
import Derived.Test.YtbiplmlkgbicnaaPShown
set_option linter.unusedVariables false
namespace Go.Proofs.Ytbiplmlkgbicnaa
open Go.RowKit Go.Proofs.YtbiplmlkgbicnaaW.PrintWords

theorem ret_tick {a b : Int} (h : a = b) : Ending.returned (.tuple #[.int .i64 a, .int .i64 0]) = Ending.returned (.tuple #[.int .i64 b, .int .i64 0]) := by rw [h]

set_option maxHeartbeats 400000 in
theorem rticks_ok (q s : Int) (w : World) (hs : Speed s) (h0 : 0 ≤ q) (h1 : q ≤ 65535) : Calls Try.prog 42 #[.int .i64 q, .int .i64 s] w fun e w' => e = .returned (.tuple #[.int .i64 (tk q s), .int .i64 0]) ∧ Turns nobody w w' := by
  rcases hs with rfl | rfl | rfl
  · skip
    by_cases h : 512 * q / 10 * 10 < 512 * q
    · go_enter Try.func42, Try.ntmps42
      go_wp2
      go_returns
      exact ⟨ret_tick (by unfold tk; omega), (by repeat' (first | exact Turns.refl _ _ | assumption | exact Or.inl rfl | exact Or.inr (Nat.le_refl _) | apply Turns.alloc | apply Turns.drew | apply Turns.drewN | apply Turns.setCell | (apply Or.inr; simp; done) | (apply Or.inr; simp; omega) | exact fun _ hh => False.elim hh | exact fun _ hh => Or.inl hh | (intro i hi; right; (try simp only at hi); omega) | (intro i hi; right; simp at hi; omega) | refine Turns.step ?_ (by assumption) ?_))⟩
    · go_enter Try.func42, Try.ntmps42
      go_wp2
      go_returns
      exact ⟨ret_tick (by unfold tk; omega), (by repeat' (first | exact Turns.refl _ _ | assumption | exact Or.inl rfl | exact Or.inr (Nat.le_refl _) | apply Turns.alloc | apply Turns.drew | apply Turns.drewN | apply Turns.setCell | (apply Or.inr; simp; done) | (apply Or.inr; simp; omega) | exact fun _ hh => False.elim hh | exact fun _ hh => Or.inl hh | (intro i hi; right; (try simp only at hi); omega) | (intro i hi; right; simp at hi; omega) | refine Turns.step ?_ (by assumption) ?_))⟩
  · skip
    by_cases h : 512 * q / 100 * 100 < 512 * q
    · go_enter Try.func42, Try.ntmps42
      go_wp2
      go_returns
      exact ⟨ret_tick (by unfold tk; omega), (by repeat' (first | exact Turns.refl _ _ | assumption | exact Or.inl rfl | exact Or.inr (Nat.le_refl _) | apply Turns.alloc | apply Turns.drew | apply Turns.drewN | apply Turns.setCell | (apply Or.inr; simp; done) | (apply Or.inr; simp; omega) | exact fun _ hh => False.elim hh | exact fun _ hh => Or.inl hh | (intro i hi; right; (try simp only at hi); omega) | (intro i hi; right; simp at hi; omega) | refine Turns.step ?_ (by assumption) ?_))⟩
    · go_enter Try.func42, Try.ntmps42
      go_wp2
      go_returns
      exact ⟨ret_tick (by unfold tk; omega), (by repeat' (first | exact Turns.refl _ _ | assumption | exact Or.inl rfl | exact Or.inr (Nat.le_refl _) | apply Turns.alloc | apply Turns.drew | apply Turns.drewN | apply Turns.setCell | (apply Or.inr; simp; done) | (apply Or.inr; simp; omega) | exact fun _ hh => False.elim hh | exact fun _ hh => Or.inl hh | (intro i hi; right; (try simp only at hi); omega) | (intro i hi; right; simp at hi; omega) | refine Turns.step ?_ (by assumption) ?_))⟩
  · skip
    by_cases h : 512 * q / 1000 * 1000 < 512 * q
    · go_enter Try.func42, Try.ntmps42
      go_wp2
      go_returns
      exact ⟨ret_tick (by unfold tk; omega), (by repeat' (first | exact Turns.refl _ _ | assumption | exact Or.inl rfl | exact Or.inr (Nat.le_refl _) | apply Turns.alloc | apply Turns.drew | apply Turns.drewN | apply Turns.setCell | (apply Or.inr; simp; done) | (apply Or.inr; simp; omega) | exact fun _ hh => False.elim hh | exact fun _ hh => Or.inl hh | (intro i hi; right; (try simp only at hi); omega) | (intro i hi; right; simp at hi; omega) | refine Turns.step ?_ (by assumption) ?_))⟩
    · go_enter Try.func42, Try.ntmps42
      go_wp2
      go_returns
      exact ⟨ret_tick (by unfold tk; omega), (by repeat' (first | exact Turns.refl _ _ | assumption | exact Or.inl rfl | exact Or.inr (Nat.le_refl _) | apply Turns.alloc | apply Turns.drew | apply Turns.drewN | apply Turns.setCell | (apply Or.inr; simp; done) | (apply Or.inr; simp; omega) | exact fun _ hh => False.elim hh | exact fun _ hh => Or.inl hh | (intro i hi; right; (try simp only at hi); omega) | (intro i hi; right; simp at hi; omega) | refine Turns.step ?_ (by assumption) ?_))⟩
set_option maxHeartbeats 400000 in
theorem rticks_bad (q s : Int) (w : World) (h : ¬ (Speed s ∧ 0 ≤ q ∧ q ≤ 65535)) : Calls Try.prog 42 #[.int .i64 q, .int .i64 s] w fun e w' => e = .returned (.tuple #[.int .i64 0, .int .i64 1]) ∧ Turns nobody w w' := by
  by_cases hq : q < 0
  · clear h
    go_enter Try.func42, Try.ntmps42
    go_wp2
    go_returns
    exact ⟨rfl, (by repeat' (first | exact Turns.refl _ _ | assumption | exact Or.inl rfl | exact Or.inr (Nat.le_refl _) | apply Turns.alloc | apply Turns.drew | apply Turns.drewN | apply Turns.setCell | (apply Or.inr; simp; done) | (apply Or.inr; simp; omega) | exact fun _ hh => False.elim hh | exact fun _ hh => Or.inl hh | (intro i hi; right; (try simp only at hi); omega) | (intro i hi; right; simp at hi; omega) | refine Turns.step ?_ (by assumption) ?_))⟩
  · by_cases hq2 : 65535 < q
    · clear h
      go_enter Try.func42, Try.ntmps42
      go_wp2
      go_returns
      exact ⟨rfl, (by repeat' (first | exact Turns.refl _ _ | assumption | exact Or.inl rfl | exact Or.inr (Nat.le_refl _) | apply Turns.alloc | apply Turns.drew | apply Turns.drewN | apply Turns.setCell | (apply Or.inr; simp; done) | (apply Or.inr; simp; omega) | exact fun _ hh => False.elim hh | exact fun _ hh => Or.inl hh | (intro i hi; right; (try simp only at hi); omega) | (intro i hi; right; simp at hi; omega) | refine Turns.step ?_ (by assumption) ?_))⟩
    · have hs : ¬ Speed s := fun hs => h ⟨hs, by omega, by omega⟩
      have e0 : (s != 10) = true := by simp; rintro rfl; exact hs (.inl rfl)
      have e1 : (s != 100) = true := by simp; rintro rfl; exact hs (.inr (.inl rfl))
      have e2 : (s != 1000) = true := by simp; rintro rfl; exact hs (.inr (.inr rfl))
      clear h hs
      go_enter Try.func42, Try.ntmps42
      go_wp2
      go_returns
      exact ⟨rfl, (by repeat' (first | exact Turns.refl _ _ | assumption | exact Or.inl rfl | exact Or.inr (Nat.le_refl _) | apply Turns.alloc | apply Turns.drew | apply Turns.drewN | apply Turns.setCell | (apply Or.inr; simp; done) | (apply Or.inr; simp; omega) | exact fun _ hh => False.elim hh | exact fun _ hh => Or.inl hh | (intro i hi; right; (try simp only at hi); omega) | (intro i hi; right; simp at hi; omega) | refine Turns.step ?_ (by assumption) ?_))⟩
set_option maxHeartbeats 400000 in
theorem rstart_ok (l q s : Int) (w : World) (hs : Speed s) (h0 : 0 ≤ q) (h1 : q ≤ 65535) : Calls Try.prog 44 #[.int .i64 l, .int .i64 q, .int .i64 s] w fun e w' => e = .returned (.int .i64 (tk q s)) ∧ Turns nobody w w' := by
  replace hs := hide hs
  go_enter Try.func44, Try.ntmps44
  go_wp2_with fail
  refine (rticks_ok q s _ hs.out h0 h1).mono ?_
  rintro e w1 ⟨rfl, k1⟩
  go_wp2_with fail
  go_returns
  exact ⟨rfl, (by repeat' (first | exact Turns.refl _ _ | assumption | exact Or.inl rfl | exact Or.inr (Nat.le_refl _) | apply Turns.alloc | apply Turns.drew | apply Turns.drewN | apply Turns.setCell | (apply Or.inr; simp; done) | (apply Or.inr; simp; omega) | exact fun _ hh => False.elim hh | exact fun _ hh => Or.inl hh | (intro i hi; right; (try simp only at hi); omega) | (intro i hi; right; simp at hi; omega) | refine Turns.step ?_ (by assumption) ?_))⟩
set_option maxHeartbeats 400000 in
theorem rstart_bad (l q s : Int) (w : World) (h : ¬ (Speed s ∧ 0 ≤ q ∧ q ≤ 65535)) : Calls Try.prog 44 #[.int .i64 l, .int .i64 q, .int .i64 s] w fun e w' => e = .returned (.int .i64 l) ∧ Turns nobody w w' := by
  replace h := hide h
  go_enter Try.func44, Try.ntmps44
  go_wp2_with fail
  refine (rticks_bad q s _ h.out).mono ?_
  rintro e w1 ⟨rfl, k1⟩
  go_wp2_with fail
  go_returns
  exact ⟨rfl, (by repeat' (first | exact Turns.refl _ _ | assumption | exact Or.inl rfl | exact Or.inr (Nat.le_refl _) | apply Turns.alloc | apply Turns.drew | apply Turns.drewN | apply Turns.setCell | (apply Or.inr; simp; done) | (apply Or.inr; simp; omega) | exact fun _ hh => False.elim hh | exact fun _ hh => Or.inl hh | (intro i hi; right; (try simp only at hi); omega) | (intro i hi; right; simp at hi; omega) | refine Turns.step ?_ (by assumption) ?_))⟩
set_option maxHeartbeats 400000 in
theorem rtick_law (l : Int) (w : World) (h0 : -9223372036854775808 ≤ l) (h1 : l ≤ 9223372036854775807) : Calls Try.prog 46 #[.int .i64 l] w fun e w' => e = .returned (.int .i64 (down l)) ∧ Turns nobody w w' := by
  unfold down
  by_cases h : l ≤ 0
  · rw [if_pos h]
    go_enter Try.func46, Try.ntmps46
    go_wp2
    go_returns
    exact ⟨rfl, (by repeat' (first | exact Turns.refl _ _ | assumption | exact Or.inl rfl | exact Or.inr (Nat.le_refl _) | apply Turns.alloc | apply Turns.drew | apply Turns.drewN | apply Turns.setCell | (apply Or.inr; simp; done) | (apply Or.inr; simp; omega) | exact fun _ hh => False.elim hh | exact fun _ hh => Or.inl hh | (intro i hi; right; (try simp only at hi); omega) | (intro i hi; right; simp at hi; omega) | refine Turns.step ?_ (by assumption) ?_))⟩
  · rw [if_neg h]
    go_enter Try.func46, Try.ntmps46
    go_wp2
    go_returns
    exact ⟨rfl, (by repeat' (first | exact Turns.refl _ _ | assumption | exact Or.inl rfl | exact Or.inr (Nat.le_refl _) | apply Turns.alloc | apply Turns.drew | apply Turns.drewN | apply Turns.setCell | (apply Or.inr; simp; done) | (apply Or.inr; simp; omega) | exact fun _ hh => False.elim hh | exact fun _ hh => Or.inl hh | (intro i hi; right; (try simp only at hi); omega) | (intro i hi; right; simp at hi; omega) | refine Turns.step ?_ (by assumption) ?_))⟩

set_option maxHeartbeats 2000000 in
theorem pauseTicks_walk (q s l : Int) (w : World) (wq : (Lit.int .i64 q).wf = true) (ws : (Lit.int .i64 s).wf = true) (wl : (Lit.int .i64 l).wf = true) :
    Calls Try.prog 17 #[.int .i64 q, .int .i64 s, .int .i64 l] w fun e w' => e = .returned (.bool true) ∧ Below w.heap.size w w' := by
  obtain ⟨l0, l1⟩ := bounds_i64 wl
  clear wq ws wl
  by_cases h : Speed s ∧ 0 ≤ q ∧ q ≤ 65535
  · obtain ⟨hs, h0, h1⟩ := h
    replace hs := hide hs
    go_enter Try.func17, Try.ntmps17
    go_wp2_with fail
    refine (pshown_at _).mono ?_
    rintro e w1 ⟨rfl, k1⟩
    go_wp2_with fail
    refine (ticks_ok q s _ hs.out h0 h1).mono ?_
    rintro e w2 ⟨rfl, k2⟩
    go_wp2_with fail
    refine (rticks_ok q s _ hs.out h0 h1).mono ?_
    rintro e w3 ⟨rfl, k3⟩
    go_wp2_with fail
    refine (start_ok l q s _ hs.out h0 h1).mono ?_
    rintro e w4 ⟨rfl, k4⟩
    go_wp2_with fail
    refine (rstart_ok l q s _ hs.out h0 h1).mono ?_
    rintro e w5 ⟨rfl, k5⟩
    go_wp2_with fail
    refine (tick_law l _ l0 l1).mono ?_
    rintro e w6 ⟨rfl, k6⟩
    go_wp2_with fail
    refine (rtick_law l _ l0 l1).mono ?_
    rintro e w7 ⟨rfl, k7⟩
    go_wp2_with fail
    go_returns
    exact ⟨rfl, Turns.none_below ((((((k1.trans k2).trans k3).trans k4).trans k5).trans k6).trans k7)⟩
  · replace h := hide h
    go_enter Try.func17, Try.ntmps17
    go_wp2_with fail
    refine (pshown_at _).mono ?_
    rintro e w1 ⟨rfl, k1⟩
    go_wp2_with fail
    refine (ticks_bad q s _ h.out).mono ?_
    rintro e w2 ⟨rfl, k2⟩
    go_wp2_with fail
    refine (rticks_bad q s _ h.out).mono ?_
    rintro e w3 ⟨rfl, k3⟩
    go_wp2_with fail
    refine (start_bad l q s _ h.out).mono ?_
    rintro e w4 ⟨rfl, k4⟩
    go_wp2_with fail
    refine (rstart_bad l q s _ h.out).mono ?_
    rintro e w5 ⟨rfl, k5⟩
    go_wp2_with fail
    refine (tick_law l _ l0 l1).mono ?_
    rintro e w6 ⟨rfl, k6⟩
    go_wp2_with fail
    refine (rtick_law l _ l0 l1).mono ?_
    rintro e w7 ⟨rfl, k7⟩
    go_wp2_with fail
    go_returns
    exact ⟨rfl, Turns.none_below ((((((k1.trans k2).trans k3).trans k4).trans k5).trans k6).trans k7)⟩

end Go.Proofs.Ytbiplmlkgbicnaa
