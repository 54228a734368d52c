/- The walk of the law 'CsrLines'. -/
import Derived.Test.YtdhifcjfkbidoaaBits
set_option linter.unusedVariables false
namespace Go.Proofs.Ytdhifcjfkbidoaa
open Go.RowKit Go.Proofs.YtdhifcjfkbidoaaW.PrintWords

theorem Try.cells23 : Try.prog.cellsOf 23 = 1 := by kernel_rfl
/-- A slice of numbers of 32 bits. -/
theorem open_words {w : World} {n t : Nat} {A : Option Addr} {len cap : Nat} (hf : Fits Try.prog w n t [.slice A len cap]) (ht : Try.prog.underlying t = some (.slice 23)) :
    len ≤ cap ∧ cap ≤ maxLen ∧ ∀ i, i < len → ∃ b o X, A = some ⟨b, o, none⟩ ∧ b < w.heap.size ∧ w.cell? ⟨b, o + i, none⟩ = some (.int .u32 (U X)) := by
  obtain ⟨A', len', cap', he', hl, hm, _, h⟩ := hf.slice ht (by rw [Try.cells23]; decide)
  simp at he'
  obtain ⟨rfl, rfl, rfl⟩ := he'
  refine ⟨hl, hm, fun i hi => ?_⟩
  obtain ⟨b, o, xs, m, hA, hcell, hx⟩ := h i hi
  obtain ⟨x, rfl, wx⟩ := hx.int Try.underlying23
  obtain ⟨X, rfl⟩ := U_of (bounds_u32 wx)
  have := hcell 0 _ rfl
  rw [Try.cells23, Nat.mul_one, Nat.add_zero] at this
  exact ⟨b, o, X, hA, block_lt_of_cell this, this⟩

theorem fat_step {w0 w w' : World} {b g o cap : Nat} {rs : List Reg} {S : Nat → Prop} (h : FAt w w0.heap.size b g o cap rs) (k0 : Turns nobody w0 w) (k : Turns S w w') (hs : ∀ i, S i → i = g) : Turns nobody w0 w' :=
  Turns.step k0 k fun i hi => .inr (by have := hs i hi; have := h.bg; omega)

set_option maxHeartbeats 1000000 in
set_option maxRecDepth 100000 in
theorem csrLines_walk (A : Option Addr) (len cap : Nat) (m : Int) (w : World) {n : Nat} (hf : Fits Try.prog w n 33 [.slice A len cap]) (wm : (Lit.int .u32 m).wf = true) :
    Calls Try.prog 4 #[.slice A len cap, .int .u32 m] w fun e w' => e = .returned (.bool true) ∧ Below w.heap.size w w' := by
  obtain ⟨hl, hm, hel⟩ := open_words hf Try.underlying33
  obtain ⟨M, rfl⟩ := U_of (bounds_u32 wm)
  unfold maxLen at hm
  have hel := hide hel
  clear hf wm
  go_enter Try.func4, Try.ntmps4
  go_wp2_with fail
  refine (shown_at _).mono ?_
  rintro e w1 ⟨rfl, k1⟩
  have hk : KindsAt (w1.alloc (.cells #[.int .u32 0, .int .u32 0, .int .u32 4294967295, .int .u32 0, .int .u32 4294967295, .int .u32 0] 41)) (some ⟨w1.heap.size, 0, none⟩) [⟨0, 0, 4294967295⟩, ⟨0, 4294967295, 0⟩] := by
    have B := Blk.new w1 #[.int .u32 0, .int .u32 0, .int .u32 4294967295, .int .u32 0, .int .u32 4294967295, .int .u32 0] 41
    intro i k hk
    match i, hk with
    | 0, hk => simp at hk; subst hk; exact ⟨_, _, rfl, B.lt, B.cell 0, B.cell 1, B.cell 2⟩
    | 1, hk => simp at hk; subst hk; exact ⟨_, _, rfl, B.lt, B.cell 3, B.cell 4, B.cell 5⟩
  go_wp2_with fail
  refine (new_law _ _ [⟨0, 0, 4294967295⟩, ⟨0, 4294967295, 0⟩] _ hk (by decide) (by decide)).mono ?_
  rintro e w2 ⟨k2, ⟨_, x, hx, hbad⟩ | ⟨_, b, g, o, c, rfl, F⟩⟩
  · simp at hx
    rcases hx with rfl | rfl <;> exact absurd (by decide) hbad
  · have K2 : Turns nobody w w2 := (by repeat' (first | exact Turns.refl _ _ | assumption | exact Or.inl rfl | exact Or.inr (Nat.le_refl _) | apply Turns.alloc | apply Turns.drew | apply Turns.drewN | apply Turns.setCell | (apply Or.inr; simp; done) | (apply Or.inr; simp; omega) | exact fun _ hh => False.elim hh | exact fun _ hh => Or.inl hh | (intro i hi; right; (try simp only at hi); omega) | (intro i hi; right; simp at hi; omega) | refine Turns.step ?_ (by assumption) ?_))
    have F : FAt w2 w.heap.size b g o c [⟨0, 0, 4294967295, 0⟩, ⟨0, 4294967295, 0, 0⟩] := F.weaken (by have := k1.size; simp; omega)
    clear hk
    go_wp2_with fail
    refine (write_at F 1 (r := ⟨0, 4294967295, 0, 0⟩) rfl (U M)).mono ?_
    rintro e w3 ⟨rfl, F3, k3⟩
    have K3 := fat_step F K2 k3 (fun _ h => h)
    rw [lines_mask] at F3
    have F3 : FAt w3 w.heap.size b g o c [⟨0, 0, 4294967295, U 0⟩, ⟨0, 4294967295, 0, U M⟩] := F3
    clear F
    go_wp2_with fail
    go_loopw [8, 9] (fun s i wr => ∃ (k : Nat) (X : BitVec 32), k ≤ len ∧ i = .int .i64 k ∧ s = .int .u32 (U X) ∧ FAt wr w.heap.size b g o c [⟨0, 0, 4294967295, U X⟩, ⟨0, 4294967295, 0, U M⟩] ∧ Turns nobody w wr) (fun _ i _ => len - (intOf i).toNat)
    case atStart => exact ⟨0, 0, Nat.zero_le _, rfl, rfl, F3, K3⟩
    case round =>
      clear F3 K3
      obtain ⟨k, X, hle, rfl, rfl, F, K⟩ := hrel
      by_cases hlt : k < len
      · by_cases hlt2 : k < 50
        · obtain ⟨b1, o1, Y, rfl, hb1, hc1⟩ := hel.out k hlt
          have c1 : wr.cell? ⟨b1, o1 + k, none⟩ = some (.int .u32 (U Y)) := (K.none_below.cell (by exact hb1)).trans hc1
          have i0 : (0 : Int) ≤ (k : Int) := by omega
          have i1 : (k : Int) < (len : Int) := by omega
          go_wp2_with fail
          refine (raise_at F 0 (r := ⟨0, 0, 4294967295, U X⟩) rfl (U Y)).mono ?_
          rintro e w4 ⟨rfl, F4, k4⟩
          have K4 := fat_step F K k4 (fun _ h => h)
          rw [U_or] at F4
          have F4 : FAt w4 w.heap.size b g o c [⟨0, 0, 4294967295, U (X ||| Y)⟩, ⟨0, 4294967295, 0, U M⟩] := F4
          have c4 : w4.cell? ⟨b1, o1 + k, none⟩ = some (.int .u32 (U Y)) := (K4.none_below.cell (by exact hb1)).trans hc1
          have eor := U_or X Y
          have L := line_law F4 0 1
          rw [show valAt [⟨0, 0, 4294967295, U (X ||| Y)⟩, ⟨0, 4294967295, 0, U M⟩] 0 = U (X ||| Y) from rfl, show valAt [⟨0, 0, 4294967295, U (X ||| Y)⟩, ⟨0, 4294967295, 0, U M⟩] 1 = U M from rfl] at L
          replace L := hide L
          go_wp2_with fail
          refine L.out.mono ?_
          rintro e w5 ⟨rfl, k5⟩
          go_wp2_with fail
          go_roundw
          case rel => exact ⟨k + 1, X ||| Y, by omega, by go_num, rfl, F4.still k5, K4.trans k5⟩
          case measure => simp [intOf]; omega
        · skip
          go_wp2_with fail
          refine (read_at F 0 (r := ⟨0, 0, 4294967295, U X⟩) rfl).mono ?_
          rintro e w4 ⟨rfl, k4⟩
          have F4 := F.still k4
          go_wp2_with fail
          refine (write_at F4 0 (r := ⟨0, 0, 4294967295, U X⟩) rfl (U X)).mono ?_
          rintro e w5 ⟨rfl, F5, k5⟩
          have K5 := fat_step F4 (K.trans k4) k5 (fun _ h => h)
          rw [lines_clear] at F5
          have F5 : FAt w5 w.heap.size b g o c [⟨0, 0, 4294967295, 0⟩, ⟨0, 4294967295, 0, U M⟩] := F5
          have L := line_law F5 0 1
          rw [show valAt [⟨0, 0, 4294967295, 0⟩, ⟨0, 4294967295, 0, U M⟩] 0 = 0 from rfl, show valAt [⟨0, 0, 4294967295, 0⟩, ⟨0, 4294967295, 0, U M⟩] 1 = U M from rfl, and_zero] at L
          replace L := hide L
          go_wp2_with fail
          refine L.out.mono ?_
          rintro e w6 ⟨rfl, k6⟩
          have F6 := F5.still k6
          go_wp2_with fail
          refine (get_at F6 0 (r := ⟨0, 0, 4294967295, 0⟩) rfl).mono ?_
          rintro e w7 ⟨rfl, k7⟩
          go_wp2_with fail
          go_returns
          exact ⟨rfl, Turns.none_below (by repeat' (first | exact Turns.refl _ _ | assumption | exact Or.inl rfl | exact Or.inr (Nat.le_refl _) | apply Turns.alloc | apply Turns.drew | apply Turns.drewN | apply Turns.setCell | (apply Or.inr; simp; done) | (apply Or.inr; simp; omega) | exact fun _ hh => False.elim hh | exact fun _ hh => Or.inl hh | (intro i hi; right; (try simp only at hi); omega) | (intro i hi; right; simp at hi; omega) | refine Turns.step ?_ (by assumption) ?_))⟩
      · skip
        go_wp2_with fail
        refine (read_at F 0 (r := ⟨0, 0, 4294967295, U X⟩) rfl).mono ?_
        rintro e w4 ⟨rfl, k4⟩
        have F4 := F.still k4
        go_wp2_with fail
        refine (write_at F4 0 (r := ⟨0, 0, 4294967295, U X⟩) rfl (U X)).mono ?_
        rintro e w5 ⟨rfl, F5, k5⟩
        have K5 := fat_step F4 (K.trans k4) k5 (fun _ h => h)
        rw [lines_clear] at F5
        have F5 : FAt w5 w.heap.size b g o c [⟨0, 0, 4294967295, 0⟩, ⟨0, 4294967295, 0, U M⟩] := F5
        have L := line_law F5 0 1
        rw [show valAt [⟨0, 0, 4294967295, 0⟩, ⟨0, 4294967295, 0, U M⟩] 0 = 0 from rfl, show valAt [⟨0, 0, 4294967295, 0⟩, ⟨0, 4294967295, 0, U M⟩] 1 = U M from rfl, and_zero] at L
        replace L := hide L
        go_wp2_with fail
        refine L.out.mono ?_
        rintro e w6 ⟨rfl, k6⟩
        have F6 := F5.still k6
        go_wp2_with fail
        refine (get_at F6 0 (r := ⟨0, 0, 4294967295, 0⟩) rfl).mono ?_
        rintro e w7 ⟨rfl, k7⟩
        go_wp2_with fail
        go_returns
        exact ⟨rfl, Turns.none_below (by repeat' (first | exact Turns.refl _ _ | assumption | exact Or.inl rfl | exact Or.inr (Nat.le_refl _) | apply Turns.alloc | apply Turns.drew | apply Turns.drewN | apply Turns.setCell | (apply Or.inr; simp; done) | (apply Or.inr; simp; omega) | exact fun _ hh => False.elim hh | exact fun _ hh => Or.inl hh | (intro i hi; right; (try simp only at hi); omega) | (intro i hi; right; simp at hi; omega) | refine Turns.step ?_ (by assumption) ?_))⟩

end Go.Proofs.Ytdhifcjfkbidoaa
