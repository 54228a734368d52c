/- The walk of the law 'QueueMarks'. -/
import Derived.Test.YtklicfagdpjhdaaRooms
set_option linter.unusedVariables false
namespace Go.Proofs.Ytklicfagdpjhdaa
open Go.RowKit Go.Proofs.YtklicfagdpjhdaaW.PrintWords

def lastOf (above : Bool) : Int := if above then 1 else 2
/-- What holds ahead of each round. -/
def Told (above : Bool) (a b : Int) (fs : List Fr) : Prop := (above = false → total fs < b) ∧ (above = true → a < total fs)

/-- Marks a and b of what is asked. -/
theorem marks_of (x y : Int) (hx : 0 ≤ x ∧ x ≤ 255) (hy : 0 ≤ y ∧ y ≤ 255) : ∃ B A : Int, max (max x y) 1 = B ∧ min x y = A ∧ 1 ≤ B ∧ B ≤ 255 ∧ 0 ≤ A ∧ A ≤ B := ⟨_, _, rfl, rfl, by omega, by omega, by omega, by omega⟩

theorem qw_putany {w0 w : World} {b : Nat} {room low high : Int} {above : Bool} {fs : List Fr} (h : QW w0 w b room low high above fs)
    (A : Addr) (n cap : Nat) (h0 : 0 < n) (hl : n ≤ 9223372036854775807) (hc : ∀ j u, (byteCells (zeros n))[j]? = some u → w.cell? (A.add j) = some u) :
    Calls Try.prog 11 #[.pointer (some ⟨b, 0, none⟩), .agg #[.slice (some A) n cap, .int .u64 0, .int .u32 0, .int .u32 0]] w fun e w' => ∃ x fs', e = .returned (.int .i64 x) ∧ QW w0 w' b room low high above fs' := by
  by_cases hfit : total fs + n ≤ room
  · exact (qw_putz h A n cap h0 hfit hc).mono (by rintro e w' ⟨he, q⟩; exact ⟨_, _, he, q⟩)
  · exact (qw_full h (some A) n cap 0 0 0 h0 hl (by omega)).mono (by rintro e w' ⟨he, q⟩; exact ⟨_, _, he, q⟩)

set_option maxHeartbeats 2000000 in
set_option maxRecDepth 100000 in
theorem marks_lt (x y : Int) (A : Option Addr) (len cap : Nat) (w : World) {n : Nat} (wx : (Lit.int .u8 x).wf = true) (wy : (Lit.int .u8 y).wf = true) (hf : Fits Try.prog w n 22 [.slice A len cap]) (hc1 : x < y) :
    Calls Try.prog 4 #[.int .u8 x, .int .u8 y, .slice A len cap] w fun e w' => e = .returned (.bool true) ∧ Below w.heap.size w w' := by
  obtain ⟨bs, rfl, hr, hbs, hl, hm⟩ := open_bytes hf Try.underlying22 Try.underlying5 Try.cells5
  have bx := bounds_u8 wx
  have by' := bounds_u8 wy
  unfold maxLen at hm
  clear hf wx wy
  have hw0 : IntKind.i64.wrap x = x := IntWalk.i64_in _ ⟨by omega, by omega⟩
  have hw1 : IntKind.i64.wrap y = y := IntWalk.i64_in _ ⟨by omega, by omega⟩
  replace hr := hide hr
  have hbs' := hide hbs
  clear hbs
  clear hm
  have hc2 : x ≤ y := by omega
  have hc3 : ¬ y ≤ 1 ∨ y = 1 := by omega
  have hc4 : (x == y) = false := beq_eq_false_iff_ne.2 (by omega)
  go_enter Try.func4, Try.ntmps4
  go_wp2_with fail
  refine (shown_at _).mono ?_
  rintro e w1 ⟨rfl, k1⟩
  go_wp2_with fail
  refine (qw_new k1 65536 (x) y (by omega) (by omega) (by omega) (by omega)).mono ?_
  rintro e w2 ⟨rfl, Q0⟩
  go_wp2_with fail
  go_loopw [12, 13] (fun s i wr => ∃ (k : Nat) (above : Bool) (fs : List Fr), k ≤ bs.length ∧ i = .int .i64 k ∧ s = .int .i64 (lastOf above) ∧ Told above (x) y fs ∧ QW w wr w1.heap.size 65536 (x) y above fs) (fun _ i _ => bs.length - (intOf i).toNat)
  case atStart => exact ⟨0, false, [], Nat.zero_le _, rfl, rfl, ⟨fun _ => by rw [total_nil]; omega, by simp⟩, Q0⟩
  case round =>
    clear Q0
    obtain ⟨k, above, fs, hk, rfl, rfl, ⟨T1, T2⟩, Q⟩ := hrel
    clear T1 T2
    have l0 : lastOf false = 2 := rfl
    have l1 : lastOf true = 1 := rfl
    by_cases hlt : k < bs.length
    · by_cases hlt2 : k < 200
      · obtain ⟨b, o, rfl, hb, hc⟩ := hr.out.cells (by omega)
        have hck := hc k hlt
        have hcw : wr.cell? ⟨b, o + k, none⟩ = some (.int .u8 (bs.getD k 0)) := (Q.k.none_below.cell hb).trans hck
        obtain ⟨m, hm1, hm2⟩ : ∃ m : Nat, bs.getD k 0 = (m : Int) ∧ m ≤ 255 := by
          have := hbs'.out (bs.getD k 0) (by simp [List.getD, hlt])
          exact ⟨(bs.getD k 0).toNat, by omega, by omega⟩
        rw [hm1] at hcw
        clear hc hck hm1
        have i0 : (0 : Int) ≤ (k : Int) := by omega
        have i1 : (k : Int) < (bs.length : Int) := by omega
        by_cases hmod : m % 3 = 0
        · have hm3 : (m : Int) % 3 = 0 := by omega
          have hm4 : Int.tmod (m : Int) 3 = 0 := by rw [Int.tmod_eq_emod_of_nonneg (by omega)]; exact hm3
          clear hmod
          go_wp2_with fail
          refine (qw_takes Q).mono ?_
          rintro e w5 ⟨vt, gs, rfl, Q5⟩
          go_wp2_with fail
          refine (qw_mark Q5 (by omega)).mono ?_
          rintro e w6 (⟨rfl, Q6, t6⟩ | ⟨_, rfl, Q6, u6, t6⟩ | ⟨_, rfl, Q6, u6, t6⟩)
          · cases above
            · have t7 := (t6 (by omega)).1 rfl
              clear t6
              have t9 := Q6.fits
              go_wp2_with fail
              refine (qw_mark Q6 (by omega)).mono ?_
              rintro e w8 (⟨rfl, Q8, t8⟩ | ⟨_, rfl, Q8, u8, t8⟩ | ⟨_, rfl, Q8, u8, t8⟩)
              · clear t8
                go_wp2_with fail
                refine (qw_bytes Q8).mono ?_
                rintro e w9 ⟨rfl, Q9⟩
                go_wp2_with fail
                try any_goals (exfalso; omega)
                go_roundw
                case rel => exact ⟨k + 1, false, _, by omega, by go_num, rfl, ⟨fun hh => by first | omega | (simp at hh), fun hh => by first | omega | (simp at hh)⟩, Q9⟩
                case measure => simp [intOf]; omega
              · first | omega | (simp at u8; done)
              · first | omega | (simp at u8; done)
            · have t7 := (t6 (by omega)).2 rfl
              clear t6
              have t9 := Q6.fits
              go_wp2_with fail
              refine (qw_mark Q6 (by omega)).mono ?_
              rintro e w8 (⟨rfl, Q8, t8⟩ | ⟨_, rfl, Q8, u8, t8⟩ | ⟨_, rfl, Q8, u8, t8⟩)
              · clear t8
                go_wp2_with fail
                refine (qw_bytes Q8).mono ?_
                rintro e w9 ⟨rfl, Q9⟩
                go_wp2_with fail
                try any_goals (exfalso; omega)
                go_roundw
                case rel => exact ⟨k + 1, true, _, by omega, by go_num, rfl, ⟨fun hh => by first | omega | (simp at hh), fun hh => by first | omega | (simp at hh)⟩, Q9⟩
                case measure => simp [intOf]; omega
              · first | omega | (simp at u8; done)
              · first | omega | (simp at u8; done)
          · subst u6
            have t7 := Q6.fits
            go_wp2_with fail
            refine (qw_bytes Q6).mono ?_
            rintro e w7 ⟨rfl, Q7⟩
            go_wp2_with fail
            try any_goals (exfalso; omega)
            refine (qw_mark Q7 (by omega)).mono ?_
            rintro e w8 (⟨rfl, Q8, t8⟩ | ⟨_, rfl, Q8, u8, t8⟩ | ⟨_, rfl, Q8, u8, t8⟩)
            · clear t8
              go_wp2_with fail
              refine (qw_bytes Q8).mono ?_
              rintro e w9 ⟨rfl, Q9⟩
              go_wp2_with fail
              try any_goals (exfalso; omega)
              go_roundw
              case rel => exact ⟨k + 1, true, _, by omega, by go_num, rfl, ⟨fun hh => by first | omega | (simp at hh), fun hh => by first | omega | (simp at hh)⟩, Q9⟩
              case measure => simp [intOf]; omega
            · first | omega | (simp at u8; done)
            · first | omega | (simp at u8; done)
          · subst u6
            have t7 := Q6.fits
            go_wp2_with fail
            refine (qw_bytes Q6).mono ?_
            rintro e w7 ⟨rfl, Q7⟩
            go_wp2_with fail
            try any_goals (exfalso; omega)
            refine (qw_mark Q7 (by omega)).mono ?_
            rintro e w8 (⟨rfl, Q8, t8⟩ | ⟨_, rfl, Q8, u8, t8⟩ | ⟨_, rfl, Q8, u8, t8⟩)
            · clear t8
              go_wp2_with fail
              refine (qw_bytes Q8).mono ?_
              rintro e w9 ⟨rfl, Q9⟩
              go_wp2_with fail
              try any_goals (exfalso; omega)
              go_roundw
              case rel => exact ⟨k + 1, false, _, by omega, by go_num, rfl, ⟨fun hh => by first | omega | (simp at hh), fun hh => by first | omega | (simp at hh)⟩, Q9⟩
              case measure => simp [intOf]; omega
            · first | omega | (simp at u8; done)
            · first | omega | (simp at u8; done)
        · have hm3 : ¬ (m : Int) % 3 = 0 := by omega
          have hm4 : ¬ Int.tmod (m : Int) 3 = 0 := by rw [Int.tmod_eq_emod_of_nonneg (by omega)]; exact hm3
          have hm5 : (Int.tmod (m : Int) 3 == 0) = false := beq_eq_false_iff_ne.2 hm4
          have hmp : 0 < m := by omega
          clear hmod
          go_wp2_with fail
          refine (qw_raw Q m (by omega)).mono ?_
          rintro e w4 ⟨g, rfl, hz, Q4, k4⟩
          replace hz := hide hz
          go_wp2_with fail
          refine (qw_putany Q4 _ m _ hmp (by omega) hz.out).mono ?_
          rintro e w5 ⟨vt, gs, rfl, Q5⟩
          clear hz hmp
          go_wp2_with fail
          refine (qw_mark Q5 (by omega)).mono ?_
          rintro e w6 (⟨rfl, Q6, t6⟩ | ⟨_, rfl, Q6, u6, t6⟩ | ⟨_, rfl, Q6, u6, t6⟩)
          · cases above
            · have t7 := (t6 (by omega)).1 rfl
              clear t6
              have t9 := Q6.fits
              go_wp2_with fail
              refine (qw_mark Q6 (by omega)).mono ?_
              rintro e w8 (⟨rfl, Q8, t8⟩ | ⟨_, rfl, Q8, u8, t8⟩ | ⟨_, rfl, Q8, u8, t8⟩)
              · clear t8
                go_wp2_with fail
                refine (qw_bytes Q8).mono ?_
                rintro e w9 ⟨rfl, Q9⟩
                go_wp2_with fail
                try any_goals (exfalso; omega)
                go_roundw
                case rel => exact ⟨k + 1, false, _, by omega, by go_num, rfl, ⟨fun hh => by first | omega | (simp at hh), fun hh => by first | omega | (simp at hh)⟩, Q9⟩
                case measure => simp [intOf]; omega
              · first | omega | (simp at u8; done)
              · first | omega | (simp at u8; done)
            · have t7 := (t6 (by omega)).2 rfl
              clear t6
              have t9 := Q6.fits
              go_wp2_with fail
              refine (qw_mark Q6 (by omega)).mono ?_
              rintro e w8 (⟨rfl, Q8, t8⟩ | ⟨_, rfl, Q8, u8, t8⟩ | ⟨_, rfl, Q8, u8, t8⟩)
              · clear t8
                go_wp2_with fail
                refine (qw_bytes Q8).mono ?_
                rintro e w9 ⟨rfl, Q9⟩
                go_wp2_with fail
                try any_goals (exfalso; omega)
                go_roundw
                case rel => exact ⟨k + 1, true, _, by omega, by go_num, rfl, ⟨fun hh => by first | omega | (simp at hh), fun hh => by first | omega | (simp at hh)⟩, Q9⟩
                case measure => simp [intOf]; omega
              · first | omega | (simp at u8; done)
              · first | omega | (simp at u8; done)
          · subst u6
            have t7 := Q6.fits
            go_wp2_with fail
            refine (qw_bytes Q6).mono ?_
            rintro e w7 ⟨rfl, Q7⟩
            go_wp2_with fail
            try any_goals (exfalso; omega)
            refine (qw_mark Q7 (by omega)).mono ?_
            rintro e w8 (⟨rfl, Q8, t8⟩ | ⟨_, rfl, Q8, u8, t8⟩ | ⟨_, rfl, Q8, u8, t8⟩)
            · clear t8
              go_wp2_with fail
              refine (qw_bytes Q8).mono ?_
              rintro e w9 ⟨rfl, Q9⟩
              go_wp2_with fail
              try any_goals (exfalso; omega)
              go_roundw
              case rel => exact ⟨k + 1, true, _, by omega, by go_num, rfl, ⟨fun hh => by first | omega | (simp at hh), fun hh => by first | omega | (simp at hh)⟩, Q9⟩
              case measure => simp [intOf]; omega
            · first | omega | (simp at u8; done)
            · first | omega | (simp at u8; done)
          · subst u6
            have t7 := Q6.fits
            go_wp2_with fail
            refine (qw_bytes Q6).mono ?_
            rintro e w7 ⟨rfl, Q7⟩
            go_wp2_with fail
            try any_goals (exfalso; omega)
            refine (qw_mark Q7 (by omega)).mono ?_
            rintro e w8 (⟨rfl, Q8, t8⟩ | ⟨_, rfl, Q8, u8, t8⟩ | ⟨_, rfl, Q8, u8, t8⟩)
            · clear t8
              go_wp2_with fail
              refine (qw_bytes Q8).mono ?_
              rintro e w9 ⟨rfl, Q9⟩
              go_wp2_with fail
              try any_goals (exfalso; omega)
              go_roundw
              case rel => exact ⟨k + 1, false, _, by omega, by go_num, rfl, ⟨fun hh => by first | omega | (simp at hh), fun hh => by first | omega | (simp at hh)⟩, Q9⟩
              case measure => simp [intOf]; omega
            · first | omega | (simp at u8; done)
            · first | omega | (simp at u8; done)
      · go_wp2_with fail
        go_returns
        exact ⟨rfl, Q.k.none_below⟩
    · go_wp2_with fail
      go_returns
      exact ⟨rfl, Q.k.none_below⟩

set_option maxHeartbeats 2000000 in
set_option maxRecDepth 100000 in
theorem marks_gt (x y : Int) (A : Option Addr) (len cap : Nat) (w : World) {n : Nat} (wx : (Lit.int .u8 x).wf = true) (wy : (Lit.int .u8 y).wf = true) (hf : Fits Try.prog w n 22 [.slice A len cap]) (hc1 : y < x) :
    Calls Try.prog 4 #[.int .u8 x, .int .u8 y, .slice A len cap] w fun e w' => e = .returned (.bool true) ∧ Below w.heap.size w w' := by
  obtain ⟨bs, rfl, hr, hbs, hl, hm⟩ := open_bytes hf Try.underlying22 Try.underlying5 Try.cells5
  have bx := bounds_u8 wx
  have by' := bounds_u8 wy
  unfold maxLen at hm
  clear hf wx wy
  have hw0 : IntKind.i64.wrap x = x := IntWalk.i64_in _ ⟨by omega, by omega⟩
  have hw1 : IntKind.i64.wrap y = y := IntWalk.i64_in _ ⟨by omega, by omega⟩
  replace hr := hide hr
  have hbs' := hide hbs
  clear hbs
  clear hm
  have hc2 : ¬ x ≤ y := by omega
  have hc3 : ¬ x ≤ 1 ∨ x = 1 := by omega
  have hc4 : (y == x) = false := beq_eq_false_iff_ne.2 (by omega)
  go_enter Try.func4, Try.ntmps4
  go_wp2_with fail
  refine (shown_at _).mono ?_
  rintro e w1 ⟨rfl, k1⟩
  go_wp2_with fail
  refine (qw_new k1 65536 (y) x (by omega) (by omega) (by omega) (by omega)).mono ?_
  rintro e w2 ⟨rfl, Q0⟩
  go_wp2_with fail
  go_loopw [12, 13] (fun s i wr => ∃ (k : Nat) (above : Bool) (fs : List Fr), k ≤ bs.length ∧ i = .int .i64 k ∧ s = .int .i64 (lastOf above) ∧ Told above (y) x fs ∧ QW w wr w1.heap.size 65536 (y) x above fs) (fun _ i _ => bs.length - (intOf i).toNat)
  case atStart => exact ⟨0, false, [], Nat.zero_le _, rfl, rfl, ⟨fun _ => by rw [total_nil]; omega, by simp⟩, Q0⟩
  case round =>
    clear Q0
    obtain ⟨k, above, fs, hk, rfl, rfl, ⟨T1, T2⟩, Q⟩ := hrel
    clear T1 T2
    have l0 : lastOf false = 2 := rfl
    have l1 : lastOf true = 1 := rfl
    by_cases hlt : k < bs.length
    · by_cases hlt2 : k < 200
      · obtain ⟨b, o, rfl, hb, hc⟩ := hr.out.cells (by omega)
        have hck := hc k hlt
        have hcw : wr.cell? ⟨b, o + k, none⟩ = some (.int .u8 (bs.getD k 0)) := (Q.k.none_below.cell hb).trans hck
        obtain ⟨m, hm1, hm2⟩ : ∃ m : Nat, bs.getD k 0 = (m : Int) ∧ m ≤ 255 := by
          have := hbs'.out (bs.getD k 0) (by simp [List.getD, hlt])
          exact ⟨(bs.getD k 0).toNat, by omega, by omega⟩
        rw [hm1] at hcw
        clear hc hck hm1
        have i0 : (0 : Int) ≤ (k : Int) := by omega
        have i1 : (k : Int) < (bs.length : Int) := by omega
        by_cases hmod : m % 3 = 0
        · have hm3 : (m : Int) % 3 = 0 := by omega
          have hm4 : Int.tmod (m : Int) 3 = 0 := by rw [Int.tmod_eq_emod_of_nonneg (by omega)]; exact hm3
          clear hmod
          go_wp2_with fail
          refine (qw_takes Q).mono ?_
          rintro e w5 ⟨vt, gs, rfl, Q5⟩
          go_wp2_with fail
          refine (qw_mark Q5 (by omega)).mono ?_
          rintro e w6 (⟨rfl, Q6, t6⟩ | ⟨_, rfl, Q6, u6, t6⟩ | ⟨_, rfl, Q6, u6, t6⟩)
          · cases above
            · have t7 := (t6 (by omega)).1 rfl
              clear t6
              have t9 := Q6.fits
              go_wp2_with fail
              refine (qw_mark Q6 (by omega)).mono ?_
              rintro e w8 (⟨rfl, Q8, t8⟩ | ⟨_, rfl, Q8, u8, t8⟩ | ⟨_, rfl, Q8, u8, t8⟩)
              · clear t8
                go_wp2_with fail
                refine (qw_bytes Q8).mono ?_
                rintro e w9 ⟨rfl, Q9⟩
                go_wp2_with fail
                try any_goals (exfalso; omega)
                go_roundw
                case rel => exact ⟨k + 1, false, _, by omega, by go_num, rfl, ⟨fun hh => by first | omega | (simp at hh), fun hh => by first | omega | (simp at hh)⟩, Q9⟩
                case measure => simp [intOf]; omega
              · first | omega | (simp at u8; done)
              · first | omega | (simp at u8; done)
            · have t7 := (t6 (by omega)).2 rfl
              clear t6
              have t9 := Q6.fits
              go_wp2_with fail
              refine (qw_mark Q6 (by omega)).mono ?_
              rintro e w8 (⟨rfl, Q8, t8⟩ | ⟨_, rfl, Q8, u8, t8⟩ | ⟨_, rfl, Q8, u8, t8⟩)
              · clear t8
                go_wp2_with fail
                refine (qw_bytes Q8).mono ?_
                rintro e w9 ⟨rfl, Q9⟩
                go_wp2_with fail
                try any_goals (exfalso; omega)
                go_roundw
                case rel => exact ⟨k + 1, true, _, by omega, by go_num, rfl, ⟨fun hh => by first | omega | (simp at hh), fun hh => by first | omega | (simp at hh)⟩, Q9⟩
                case measure => simp [intOf]; omega
              · first | omega | (simp at u8; done)
              · first | omega | (simp at u8; done)
          · subst u6
            have t7 := Q6.fits
            go_wp2_with fail
            refine (qw_bytes Q6).mono ?_
            rintro e w7 ⟨rfl, Q7⟩
            go_wp2_with fail
            try any_goals (exfalso; omega)
            refine (qw_mark Q7 (by omega)).mono ?_
            rintro e w8 (⟨rfl, Q8, t8⟩ | ⟨_, rfl, Q8, u8, t8⟩ | ⟨_, rfl, Q8, u8, t8⟩)
            · clear t8
              go_wp2_with fail
              refine (qw_bytes Q8).mono ?_
              rintro e w9 ⟨rfl, Q9⟩
              go_wp2_with fail
              try any_goals (exfalso; omega)
              go_roundw
              case rel => exact ⟨k + 1, true, _, by omega, by go_num, rfl, ⟨fun hh => by first | omega | (simp at hh), fun hh => by first | omega | (simp at hh)⟩, Q9⟩
              case measure => simp [intOf]; omega
            · first | omega | (simp at u8; done)
            · first | omega | (simp at u8; done)
          · subst u6
            have t7 := Q6.fits
            go_wp2_with fail
            refine (qw_bytes Q6).mono ?_
            rintro e w7 ⟨rfl, Q7⟩
            go_wp2_with fail
            try any_goals (exfalso; omega)
            refine (qw_mark Q7 (by omega)).mono ?_
            rintro e w8 (⟨rfl, Q8, t8⟩ | ⟨_, rfl, Q8, u8, t8⟩ | ⟨_, rfl, Q8, u8, t8⟩)
            · clear t8
              go_wp2_with fail
              refine (qw_bytes Q8).mono ?_
              rintro e w9 ⟨rfl, Q9⟩
              go_wp2_with fail
              try any_goals (exfalso; omega)
              go_roundw
              case rel => exact ⟨k + 1, false, _, by omega, by go_num, rfl, ⟨fun hh => by first | omega | (simp at hh), fun hh => by first | omega | (simp at hh)⟩, Q9⟩
              case measure => simp [intOf]; omega
            · first | omega | (simp at u8; done)
            · first | omega | (simp at u8; done)
        · have hm3 : ¬ (m : Int) % 3 = 0 := by omega
          have hm4 : ¬ Int.tmod (m : Int) 3 = 0 := by rw [Int.tmod_eq_emod_of_nonneg (by omega)]; exact hm3
          have hm5 : (Int.tmod (m : Int) 3 == 0) = false := beq_eq_false_iff_ne.2 hm4
          have hmp : 0 < m := by omega
          clear hmod
          go_wp2_with fail
          refine (qw_raw Q m (by omega)).mono ?_
          rintro e w4 ⟨g, rfl, hz, Q4, k4⟩
          replace hz := hide hz
          go_wp2_with fail
          refine (qw_putany Q4 _ m _ hmp (by omega) hz.out).mono ?_
          rintro e w5 ⟨vt, gs, rfl, Q5⟩
          clear hz hmp
          go_wp2_with fail
          refine (qw_mark Q5 (by omega)).mono ?_
          rintro e w6 (⟨rfl, Q6, t6⟩ | ⟨_, rfl, Q6, u6, t6⟩ | ⟨_, rfl, Q6, u6, t6⟩)
          · cases above
            · have t7 := (t6 (by omega)).1 rfl
              clear t6
              have t9 := Q6.fits
              go_wp2_with fail
              refine (qw_mark Q6 (by omega)).mono ?_
              rintro e w8 (⟨rfl, Q8, t8⟩ | ⟨_, rfl, Q8, u8, t8⟩ | ⟨_, rfl, Q8, u8, t8⟩)
              · clear t8
                go_wp2_with fail
                refine (qw_bytes Q8).mono ?_
                rintro e w9 ⟨rfl, Q9⟩
                go_wp2_with fail
                try any_goals (exfalso; omega)
                go_roundw
                case rel => exact ⟨k + 1, false, _, by omega, by go_num, rfl, ⟨fun hh => by first | omega | (simp at hh), fun hh => by first | omega | (simp at hh)⟩, Q9⟩
                case measure => simp [intOf]; omega
              · first | omega | (simp at u8; done)
              · first | omega | (simp at u8; done)
            · have t7 := (t6 (by omega)).2 rfl
              clear t6
              have t9 := Q6.fits
              go_wp2_with fail
              refine (qw_mark Q6 (by omega)).mono ?_
              rintro e w8 (⟨rfl, Q8, t8⟩ | ⟨_, rfl, Q8, u8, t8⟩ | ⟨_, rfl, Q8, u8, t8⟩)
              · clear t8
                go_wp2_with fail
                refine (qw_bytes Q8).mono ?_
                rintro e w9 ⟨rfl, Q9⟩
                go_wp2_with fail
                try any_goals (exfalso; omega)
                go_roundw
                case rel => exact ⟨k + 1, true, _, by omega, by go_num, rfl, ⟨fun hh => by first | omega | (simp at hh), fun hh => by first | omega | (simp at hh)⟩, Q9⟩
                case measure => simp [intOf]; omega
              · first | omega | (simp at u8; done)
              · first | omega | (simp at u8; done)
          · subst u6
            have t7 := Q6.fits
            go_wp2_with fail
            refine (qw_bytes Q6).mono ?_
            rintro e w7 ⟨rfl, Q7⟩
            go_wp2_with fail
            try any_goals (exfalso; omega)
            refine (qw_mark Q7 (by omega)).mono ?_
            rintro e w8 (⟨rfl, Q8, t8⟩ | ⟨_, rfl, Q8, u8, t8⟩ | ⟨_, rfl, Q8, u8, t8⟩)
            · clear t8
              go_wp2_with fail
              refine (qw_bytes Q8).mono ?_
              rintro e w9 ⟨rfl, Q9⟩
              go_wp2_with fail
              try any_goals (exfalso; omega)
              go_roundw
              case rel => exact ⟨k + 1, true, _, by omega, by go_num, rfl, ⟨fun hh => by first | omega | (simp at hh), fun hh => by first | omega | (simp at hh)⟩, Q9⟩
              case measure => simp [intOf]; omega
            · first | omega | (simp at u8; done)
            · first | omega | (simp at u8; done)
          · subst u6
            have t7 := Q6.fits
            go_wp2_with fail
            refine (qw_bytes Q6).mono ?_
            rintro e w7 ⟨rfl, Q7⟩
            go_wp2_with fail
            try any_goals (exfalso; omega)
            refine (qw_mark Q7 (by omega)).mono ?_
            rintro e w8 (⟨rfl, Q8, t8⟩ | ⟨_, rfl, Q8, u8, t8⟩ | ⟨_, rfl, Q8, u8, t8⟩)
            · clear t8
              go_wp2_with fail
              refine (qw_bytes Q8).mono ?_
              rintro e w9 ⟨rfl, Q9⟩
              go_wp2_with fail
              try any_goals (exfalso; omega)
              go_roundw
              case rel => exact ⟨k + 1, false, _, by omega, by go_num, rfl, ⟨fun hh => by first | omega | (simp at hh), fun hh => by first | omega | (simp at hh)⟩, Q9⟩
              case measure => simp [intOf]; omega
            · first | omega | (simp at u8; done)
            · first | omega | (simp at u8; done)
      · go_wp2_with fail
        go_returns
        exact ⟨rfl, Q.k.none_below⟩
    · go_wp2_with fail
      go_returns
      exact ⟨rfl, Q.k.none_below⟩

set_option maxHeartbeats 2000000 in
set_option maxRecDepth 100000 in
theorem marks_0 (x y : Int) (A : Option Addr) (len cap : Nat) (w : World) {n : Nat} (wx : (Lit.int .u8 x).wf = true) (wy : (Lit.int .u8 y).wf = true) (hf : Fits Try.prog w n 22 [.slice A len cap]) (hc1 : x = 0) (hc2 : y = 0) :
    Calls Try.prog 4 #[.int .u8 x, .int .u8 y, .slice A len cap] w fun e w' => e = .returned (.bool true) ∧ Below w.heap.size w w' := by
  obtain ⟨bs, rfl, hr, hbs, hl, hm⟩ := open_bytes hf Try.underlying22 Try.underlying5 Try.cells5
  have bx := bounds_u8 wx
  have by' := bounds_u8 wy
  unfold maxLen at hm
  clear hf wx wy
  have hw0 : IntKind.i64.wrap x = x := IntWalk.i64_in _ ⟨by omega, by omega⟩
  have hw1 : IntKind.i64.wrap y = y := IntWalk.i64_in _ ⟨by omega, by omega⟩
  replace hr := hide hr
  have hbs' := hide hbs
  clear hbs
  clear hm
  subst hc1 hc2
  go_enter Try.func4, Try.ntmps4
  go_wp2_with fail
  refine (shown_at _).mono ?_
  rintro e w1 ⟨rfl, k1⟩
  go_wp2_with fail
  refine (qw_new k1 65536 (0) 1 (by omega) (by omega) (by omega) (by omega)).mono ?_
  rintro e w2 ⟨rfl, Q0⟩
  go_wp2_with fail
  go_loopw [12, 13] (fun s i wr => ∃ (k : Nat) (above : Bool) (fs : List Fr), k ≤ bs.length ∧ i = .int .i64 k ∧ s = .int .i64 (lastOf above) ∧ Told above (0) 1 fs ∧ QW w wr w1.heap.size 65536 (0) 1 above fs) (fun _ i _ => bs.length - (intOf i).toNat)
  case atStart => exact ⟨0, false, [], Nat.zero_le _, rfl, rfl, ⟨fun _ => by rw [total_nil]; omega, by simp⟩, Q0⟩
  case round =>
    clear Q0
    obtain ⟨k, above, fs, hk, rfl, rfl, ⟨T1, T2⟩, Q⟩ := hrel
    clear T1 T2
    have l0 : lastOf false = 2 := rfl
    have l1 : lastOf true = 1 := rfl
    by_cases hlt : k < bs.length
    · by_cases hlt2 : k < 200
      · obtain ⟨b, o, rfl, hb, hc⟩ := hr.out.cells (by omega)
        have hck := hc k hlt
        have hcw : wr.cell? ⟨b, o + k, none⟩ = some (.int .u8 (bs.getD k 0)) := (Q.k.none_below.cell hb).trans hck
        obtain ⟨m, hm1, hm2⟩ : ∃ m : Nat, bs.getD k 0 = (m : Int) ∧ m ≤ 255 := by
          have := hbs'.out (bs.getD k 0) (by simp [List.getD, hlt])
          exact ⟨(bs.getD k 0).toNat, by omega, by omega⟩
        rw [hm1] at hcw
        clear hc hck hm1
        have i0 : (0 : Int) ≤ (k : Int) := by omega
        have i1 : (k : Int) < (bs.length : Int) := by omega
        by_cases hmod : m % 3 = 0
        · have hm3 : (m : Int) % 3 = 0 := by omega
          have hm4 : Int.tmod (m : Int) 3 = 0 := by rw [Int.tmod_eq_emod_of_nonneg (by omega)]; exact hm3
          clear hmod
          go_wp2_with fail
          refine (qw_takes Q).mono ?_
          rintro e w5 ⟨vt, gs, rfl, Q5⟩
          go_wp2_with fail
          refine (qw_mark Q5 (by omega)).mono ?_
          rintro e w6 (⟨rfl, Q6, t6⟩ | ⟨_, rfl, Q6, u6, t6⟩ | ⟨_, rfl, Q6, u6, t6⟩)
          · cases above
            · have t7 := (t6 (by omega)).1 rfl
              clear t6
              have t9 := Q6.fits
              go_wp2_with fail
              refine (qw_mark Q6 (by omega)).mono ?_
              rintro e w8 (⟨rfl, Q8, t8⟩ | ⟨_, rfl, Q8, u8, t8⟩ | ⟨_, rfl, Q8, u8, t8⟩)
              · clear t8
                go_wp2_with fail
                refine (qw_bytes Q8).mono ?_
                rintro e w9 ⟨rfl, Q9⟩
                go_wp2_with fail
                try any_goals (exfalso; omega)
                go_roundw
                case rel => exact ⟨k + 1, false, _, by omega, by go_num, rfl, ⟨fun hh => by first | omega | (simp at hh), fun hh => by first | omega | (simp at hh)⟩, Q9⟩
                case measure => simp [intOf]; omega
              · first | omega | (simp at u8; done)
              · first | omega | (simp at u8; done)
            · have t7 := (t6 (by omega)).2 rfl
              clear t6
              have t9 := Q6.fits
              go_wp2_with fail
              refine (qw_mark Q6 (by omega)).mono ?_
              rintro e w8 (⟨rfl, Q8, t8⟩ | ⟨_, rfl, Q8, u8, t8⟩ | ⟨_, rfl, Q8, u8, t8⟩)
              · clear t8
                go_wp2_with fail
                refine (qw_bytes Q8).mono ?_
                rintro e w9 ⟨rfl, Q9⟩
                go_wp2_with fail
                try any_goals (exfalso; omega)
                go_roundw
                case rel => exact ⟨k + 1, true, _, by omega, by go_num, rfl, ⟨fun hh => by first | omega | (simp at hh), fun hh => by first | omega | (simp at hh)⟩, Q9⟩
                case measure => simp [intOf]; omega
              · first | omega | (simp at u8; done)
              · first | omega | (simp at u8; done)
          · subst u6
            have t7 := Q6.fits
            go_wp2_with fail
            refine (qw_bytes Q6).mono ?_
            rintro e w7 ⟨rfl, Q7⟩
            go_wp2_with fail
            try any_goals (exfalso; omega)
            refine (qw_mark Q7 (by omega)).mono ?_
            rintro e w8 (⟨rfl, Q8, t8⟩ | ⟨_, rfl, Q8, u8, t8⟩ | ⟨_, rfl, Q8, u8, t8⟩)
            · clear t8
              go_wp2_with fail
              refine (qw_bytes Q8).mono ?_
              rintro e w9 ⟨rfl, Q9⟩
              go_wp2_with fail
              try any_goals (exfalso; omega)
              go_roundw
              case rel => exact ⟨k + 1, true, _, by omega, by go_num, rfl, ⟨fun hh => by first | omega | (simp at hh), fun hh => by first | omega | (simp at hh)⟩, Q9⟩
              case measure => simp [intOf]; omega
            · first | omega | (simp at u8; done)
            · first | omega | (simp at u8; done)
          · subst u6
            have t7 := Q6.fits
            go_wp2_with fail
            refine (qw_bytes Q6).mono ?_
            rintro e w7 ⟨rfl, Q7⟩
            go_wp2_with fail
            try any_goals (exfalso; omega)
            refine (qw_mark Q7 (by omega)).mono ?_
            rintro e w8 (⟨rfl, Q8, t8⟩ | ⟨_, rfl, Q8, u8, t8⟩ | ⟨_, rfl, Q8, u8, t8⟩)
            · clear t8
              go_wp2_with fail
              refine (qw_bytes Q8).mono ?_
              rintro e w9 ⟨rfl, Q9⟩
              go_wp2_with fail
              try any_goals (exfalso; omega)
              go_roundw
              case rel => exact ⟨k + 1, false, _, by omega, by go_num, rfl, ⟨fun hh => by first | omega | (simp at hh), fun hh => by first | omega | (simp at hh)⟩, Q9⟩
              case measure => simp [intOf]; omega
            · first | omega | (simp at u8; done)
            · first | omega | (simp at u8; done)
        · have hm3 : ¬ (m : Int) % 3 = 0 := by omega
          have hm4 : ¬ Int.tmod (m : Int) 3 = 0 := by rw [Int.tmod_eq_emod_of_nonneg (by omega)]; exact hm3
          have hm5 : (Int.tmod (m : Int) 3 == 0) = false := beq_eq_false_iff_ne.2 hm4
          have hmp : 0 < m := by omega
          clear hmod
          go_wp2_with fail
          refine (qw_raw Q m (by omega)).mono ?_
          rintro e w4 ⟨g, rfl, hz, Q4, k4⟩
          replace hz := hide hz
          go_wp2_with fail
          refine (qw_putany Q4 _ m _ hmp (by omega) hz.out).mono ?_
          rintro e w5 ⟨vt, gs, rfl, Q5⟩
          clear hz hmp
          go_wp2_with fail
          refine (qw_mark Q5 (by omega)).mono ?_
          rintro e w6 (⟨rfl, Q6, t6⟩ | ⟨_, rfl, Q6, u6, t6⟩ | ⟨_, rfl, Q6, u6, t6⟩)
          · cases above
            · have t7 := (t6 (by omega)).1 rfl
              clear t6
              have t9 := Q6.fits
              go_wp2_with fail
              refine (qw_mark Q6 (by omega)).mono ?_
              rintro e w8 (⟨rfl, Q8, t8⟩ | ⟨_, rfl, Q8, u8, t8⟩ | ⟨_, rfl, Q8, u8, t8⟩)
              · clear t8
                go_wp2_with fail
                refine (qw_bytes Q8).mono ?_
                rintro e w9 ⟨rfl, Q9⟩
                go_wp2_with fail
                try any_goals (exfalso; omega)
                go_roundw
                case rel => exact ⟨k + 1, false, _, by omega, by go_num, rfl, ⟨fun hh => by first | omega | (simp at hh), fun hh => by first | omega | (simp at hh)⟩, Q9⟩
                case measure => simp [intOf]; omega
              · first | omega | (simp at u8; done)
              · first | omega | (simp at u8; done)
            · have t7 := (t6 (by omega)).2 rfl
              clear t6
              have t9 := Q6.fits
              go_wp2_with fail
              refine (qw_mark Q6 (by omega)).mono ?_
              rintro e w8 (⟨rfl, Q8, t8⟩ | ⟨_, rfl, Q8, u8, t8⟩ | ⟨_, rfl, Q8, u8, t8⟩)
              · clear t8
                go_wp2_with fail
                refine (qw_bytes Q8).mono ?_
                rintro e w9 ⟨rfl, Q9⟩
                go_wp2_with fail
                try any_goals (exfalso; omega)
                go_roundw
                case rel => exact ⟨k + 1, true, _, by omega, by go_num, rfl, ⟨fun hh => by first | omega | (simp at hh), fun hh => by first | omega | (simp at hh)⟩, Q9⟩
                case measure => simp [intOf]; omega
              · first | omega | (simp at u8; done)
              · first | omega | (simp at u8; done)
          · subst u6
            have t7 := Q6.fits
            go_wp2_with fail
            refine (qw_bytes Q6).mono ?_
            rintro e w7 ⟨rfl, Q7⟩
            go_wp2_with fail
            try any_goals (exfalso; omega)
            refine (qw_mark Q7 (by omega)).mono ?_
            rintro e w8 (⟨rfl, Q8, t8⟩ | ⟨_, rfl, Q8, u8, t8⟩ | ⟨_, rfl, Q8, u8, t8⟩)
            · clear t8
              go_wp2_with fail
              refine (qw_bytes Q8).mono ?_
              rintro e w9 ⟨rfl, Q9⟩
              go_wp2_with fail
              try any_goals (exfalso; omega)
              go_roundw
              case rel => exact ⟨k + 1, true, _, by omega, by go_num, rfl, ⟨fun hh => by first | omega | (simp at hh), fun hh => by first | omega | (simp at hh)⟩, Q9⟩
              case measure => simp [intOf]; omega
            · first | omega | (simp at u8; done)
            · first | omega | (simp at u8; done)
          · subst u6
            have t7 := Q6.fits
            go_wp2_with fail
            refine (qw_bytes Q6).mono ?_
            rintro e w7 ⟨rfl, Q7⟩
            go_wp2_with fail
            try any_goals (exfalso; omega)
            refine (qw_mark Q7 (by omega)).mono ?_
            rintro e w8 (⟨rfl, Q8, t8⟩ | ⟨_, rfl, Q8, u8, t8⟩ | ⟨_, rfl, Q8, u8, t8⟩)
            · clear t8
              go_wp2_with fail
              refine (qw_bytes Q8).mono ?_
              rintro e w9 ⟨rfl, Q9⟩
              go_wp2_with fail
              try any_goals (exfalso; omega)
              go_roundw
              case rel => exact ⟨k + 1, false, _, by omega, by go_num, rfl, ⟨fun hh => by first | omega | (simp at hh), fun hh => by first | omega | (simp at hh)⟩, Q9⟩
              case measure => simp [intOf]; omega
            · first | omega | (simp at u8; done)
            · first | omega | (simp at u8; done)
      · go_wp2_with fail
        go_returns
        exact ⟨rfl, Q.k.none_below⟩
    · go_wp2_with fail
      go_returns
      exact ⟨rfl, Q.k.none_below⟩

set_option maxHeartbeats 2000000 in
set_option maxRecDepth 100000 in
theorem marks_eq (x y : Int) (A : Option Addr) (len cap : Nat) (w : World) {n : Nat} (wx : (Lit.int .u8 x).wf = true) (wy : (Lit.int .u8 y).wf = true) (hf : Fits Try.prog w n 22 [.slice A len cap]) (hc1 : x = y) (hc2 : 1 ≤ x) :
    Calls Try.prog 4 #[.int .u8 x, .int .u8 y, .slice A len cap] w fun e w' => e = .returned (.bool true) ∧ Below w.heap.size w w' := by
  obtain ⟨bs, rfl, hr, hbs, hl, hm⟩ := open_bytes hf Try.underlying22 Try.underlying5 Try.cells5
  have bx := bounds_u8 wx
  have by' := bounds_u8 wy
  unfold maxLen at hm
  clear hf wx wy
  have hw0 : IntKind.i64.wrap x = x := IntWalk.i64_in _ ⟨by omega, by omega⟩
  have hw1 : IntKind.i64.wrap y = y := IntWalk.i64_in _ ⟨by omega, by omega⟩
  replace hr := hide hr
  have hbs' := hide hbs
  clear hbs
  clear hm
  subst hc1
  have hc3 : ¬ x ≤ 1 ∨ x = 1 := by omega
  go_enter Try.func4, Try.ntmps4
  go_wp2_with fail
  refine (shown_at _).mono ?_
  rintro e w1 ⟨rfl, k1⟩
  go_wp2_with fail
  refine (qw_new k1 65536 (x - 1) x (by omega) (by omega) (by omega) (by omega)).mono ?_
  rintro e w2 ⟨rfl, Q0⟩
  go_wp2_with fail
  go_loopw [12, 13] (fun s i wr => ∃ (k : Nat) (above : Bool) (fs : List Fr), k ≤ bs.length ∧ i = .int .i64 k ∧ s = .int .i64 (lastOf above) ∧ Told above (x - 1) x fs ∧ QW w wr w1.heap.size 65536 (x - 1) x above fs) (fun _ i _ => bs.length - (intOf i).toNat)
  case atStart => exact ⟨0, false, [], Nat.zero_le _, rfl, rfl, ⟨fun _ => by rw [total_nil]; omega, by simp⟩, Q0⟩
  case round =>
    clear Q0
    obtain ⟨k, above, fs, hk, rfl, rfl, ⟨T1, T2⟩, Q⟩ := hrel
    clear T1 T2
    have l0 : lastOf false = 2 := rfl
    have l1 : lastOf true = 1 := rfl
    by_cases hlt : k < bs.length
    · by_cases hlt2 : k < 200
      · obtain ⟨b, o, rfl, hb, hc⟩ := hr.out.cells (by omega)
        have hck := hc k hlt
        have hcw : wr.cell? ⟨b, o + k, none⟩ = some (.int .u8 (bs.getD k 0)) := (Q.k.none_below.cell hb).trans hck
        obtain ⟨m, hm1, hm2⟩ : ∃ m : Nat, bs.getD k 0 = (m : Int) ∧ m ≤ 255 := by
          have := hbs'.out (bs.getD k 0) (by simp [List.getD, hlt])
          exact ⟨(bs.getD k 0).toNat, by omega, by omega⟩
        rw [hm1] at hcw
        clear hc hck hm1
        have i0 : (0 : Int) ≤ (k : Int) := by omega
        have i1 : (k : Int) < (bs.length : Int) := by omega
        by_cases hmod : m % 3 = 0
        · have hm3 : (m : Int) % 3 = 0 := by omega
          have hm4 : Int.tmod (m : Int) 3 = 0 := by rw [Int.tmod_eq_emod_of_nonneg (by omega)]; exact hm3
          clear hmod
          go_wp2_with fail
          refine (qw_takes Q).mono ?_
          rintro e w5 ⟨vt, gs, rfl, Q5⟩
          go_wp2_with fail
          refine (qw_mark Q5 (by omega)).mono ?_
          rintro e w6 (⟨rfl, Q6, t6⟩ | ⟨_, rfl, Q6, u6, t6⟩ | ⟨_, rfl, Q6, u6, t6⟩)
          · cases above
            · have t7 := (t6 (by omega)).1 rfl
              clear t6
              have t9 := Q6.fits
              go_wp2_with fail
              refine (qw_mark Q6 (by omega)).mono ?_
              rintro e w8 (⟨rfl, Q8, t8⟩ | ⟨_, rfl, Q8, u8, t8⟩ | ⟨_, rfl, Q8, u8, t8⟩)
              · clear t8
                go_wp2_with fail
                refine (qw_bytes Q8).mono ?_
                rintro e w9 ⟨rfl, Q9⟩
                go_wp2_with fail
                try any_goals (exfalso; omega)
                go_roundw
                case rel => exact ⟨k + 1, false, _, by omega, by go_num, rfl, ⟨fun hh => by first | omega | (simp at hh), fun hh => by first | omega | (simp at hh)⟩, Q9⟩
                case measure => simp [intOf]; omega
              · first | omega | (simp at u8; done)
              · first | omega | (simp at u8; done)
            · have t7 := (t6 (by omega)).2 rfl
              clear t6
              have t9 := Q6.fits
              go_wp2_with fail
              refine (qw_mark Q6 (by omega)).mono ?_
              rintro e w8 (⟨rfl, Q8, t8⟩ | ⟨_, rfl, Q8, u8, t8⟩ | ⟨_, rfl, Q8, u8, t8⟩)
              · clear t8
                go_wp2_with fail
                refine (qw_bytes Q8).mono ?_
                rintro e w9 ⟨rfl, Q9⟩
                go_wp2_with fail
                try any_goals (exfalso; omega)
                go_roundw
                case rel => exact ⟨k + 1, true, _, by omega, by go_num, rfl, ⟨fun hh => by first | omega | (simp at hh), fun hh => by first | omega | (simp at hh)⟩, Q9⟩
                case measure => simp [intOf]; omega
              · first | omega | (simp at u8; done)
              · first | omega | (simp at u8; done)
          · subst u6
            have t7 := Q6.fits
            go_wp2_with fail
            refine (qw_bytes Q6).mono ?_
            rintro e w7 ⟨rfl, Q7⟩
            go_wp2_with fail
            try any_goals (exfalso; omega)
            refine (qw_mark Q7 (by omega)).mono ?_
            rintro e w8 (⟨rfl, Q8, t8⟩ | ⟨_, rfl, Q8, u8, t8⟩ | ⟨_, rfl, Q8, u8, t8⟩)
            · clear t8
              go_wp2_with fail
              refine (qw_bytes Q8).mono ?_
              rintro e w9 ⟨rfl, Q9⟩
              go_wp2_with fail
              try any_goals (exfalso; omega)
              go_roundw
              case rel => exact ⟨k + 1, true, _, by omega, by go_num, rfl, ⟨fun hh => by first | omega | (simp at hh), fun hh => by first | omega | (simp at hh)⟩, Q9⟩
              case measure => simp [intOf]; omega
            · first | omega | (simp at u8; done)
            · first | omega | (simp at u8; done)
          · subst u6
            have t7 := Q6.fits
            go_wp2_with fail
            refine (qw_bytes Q6).mono ?_
            rintro e w7 ⟨rfl, Q7⟩
            go_wp2_with fail
            try any_goals (exfalso; omega)
            refine (qw_mark Q7 (by omega)).mono ?_
            rintro e w8 (⟨rfl, Q8, t8⟩ | ⟨_, rfl, Q8, u8, t8⟩ | ⟨_, rfl, Q8, u8, t8⟩)
            · clear t8
              go_wp2_with fail
              refine (qw_bytes Q8).mono ?_
              rintro e w9 ⟨rfl, Q9⟩
              go_wp2_with fail
              try any_goals (exfalso; omega)
              go_roundw
              case rel => exact ⟨k + 1, false, _, by omega, by go_num, rfl, ⟨fun hh => by first | omega | (simp at hh), fun hh => by first | omega | (simp at hh)⟩, Q9⟩
              case measure => simp [intOf]; omega
            · first | omega | (simp at u8; done)
            · first | omega | (simp at u8; done)
        · have hm3 : ¬ (m : Int) % 3 = 0 := by omega
          have hm4 : ¬ Int.tmod (m : Int) 3 = 0 := by rw [Int.tmod_eq_emod_of_nonneg (by omega)]; exact hm3
          have hm5 : (Int.tmod (m : Int) 3 == 0) = false := beq_eq_false_iff_ne.2 hm4
          have hmp : 0 < m := by omega
          clear hmod
          go_wp2_with fail
          refine (qw_raw Q m (by omega)).mono ?_
          rintro e w4 ⟨g, rfl, hz, Q4, k4⟩
          replace hz := hide hz
          go_wp2_with fail
          refine (qw_putany Q4 _ m _ hmp (by omega) hz.out).mono ?_
          rintro e w5 ⟨vt, gs, rfl, Q5⟩
          clear hz hmp
          go_wp2_with fail
          refine (qw_mark Q5 (by omega)).mono ?_
          rintro e w6 (⟨rfl, Q6, t6⟩ | ⟨_, rfl, Q6, u6, t6⟩ | ⟨_, rfl, Q6, u6, t6⟩)
          · cases above
            · have t7 := (t6 (by omega)).1 rfl
              clear t6
              have t9 := Q6.fits
              go_wp2_with fail
              refine (qw_mark Q6 (by omega)).mono ?_
              rintro e w8 (⟨rfl, Q8, t8⟩ | ⟨_, rfl, Q8, u8, t8⟩ | ⟨_, rfl, Q8, u8, t8⟩)
              · clear t8
                go_wp2_with fail
                refine (qw_bytes Q8).mono ?_
                rintro e w9 ⟨rfl, Q9⟩
                go_wp2_with fail
                try any_goals (exfalso; omega)
                go_roundw
                case rel => exact ⟨k + 1, false, _, by omega, by go_num, rfl, ⟨fun hh => by first | omega | (simp at hh), fun hh => by first | omega | (simp at hh)⟩, Q9⟩
                case measure => simp [intOf]; omega
              · first | omega | (simp at u8; done)
              · first | omega | (simp at u8; done)
            · have t7 := (t6 (by omega)).2 rfl
              clear t6
              have t9 := Q6.fits
              go_wp2_with fail
              refine (qw_mark Q6 (by omega)).mono ?_
              rintro e w8 (⟨rfl, Q8, t8⟩ | ⟨_, rfl, Q8, u8, t8⟩ | ⟨_, rfl, Q8, u8, t8⟩)
              · clear t8
                go_wp2_with fail
                refine (qw_bytes Q8).mono ?_
                rintro e w9 ⟨rfl, Q9⟩
                go_wp2_with fail
                try any_goals (exfalso; omega)
                go_roundw
                case rel => exact ⟨k + 1, true, _, by omega, by go_num, rfl, ⟨fun hh => by first | omega | (simp at hh), fun hh => by first | omega | (simp at hh)⟩, Q9⟩
                case measure => simp [intOf]; omega
              · first | omega | (simp at u8; done)
              · first | omega | (simp at u8; done)
          · subst u6
            have t7 := Q6.fits
            go_wp2_with fail
            refine (qw_bytes Q6).mono ?_
            rintro e w7 ⟨rfl, Q7⟩
            go_wp2_with fail
            try any_goals (exfalso; omega)
            refine (qw_mark Q7 (by omega)).mono ?_
            rintro e w8 (⟨rfl, Q8, t8⟩ | ⟨_, rfl, Q8, u8, t8⟩ | ⟨_, rfl, Q8, u8, t8⟩)
            · clear t8
              go_wp2_with fail
              refine (qw_bytes Q8).mono ?_
              rintro e w9 ⟨rfl, Q9⟩
              go_wp2_with fail
              try any_goals (exfalso; omega)
              go_roundw
              case rel => exact ⟨k + 1, true, _, by omega, by go_num, rfl, ⟨fun hh => by first | omega | (simp at hh), fun hh => by first | omega | (simp at hh)⟩, Q9⟩
              case measure => simp [intOf]; omega
            · first | omega | (simp at u8; done)
            · first | omega | (simp at u8; done)
          · subst u6
            have t7 := Q6.fits
            go_wp2_with fail
            refine (qw_bytes Q6).mono ?_
            rintro e w7 ⟨rfl, Q7⟩
            go_wp2_with fail
            try any_goals (exfalso; omega)
            refine (qw_mark Q7 (by omega)).mono ?_
            rintro e w8 (⟨rfl, Q8, t8⟩ | ⟨_, rfl, Q8, u8, t8⟩ | ⟨_, rfl, Q8, u8, t8⟩)
            · clear t8
              go_wp2_with fail
              refine (qw_bytes Q8).mono ?_
              rintro e w9 ⟨rfl, Q9⟩
              go_wp2_with fail
              try any_goals (exfalso; omega)
              go_roundw
              case rel => exact ⟨k + 1, false, _, by omega, by go_num, rfl, ⟨fun hh => by first | omega | (simp at hh), fun hh => by first | omega | (simp at hh)⟩, Q9⟩
              case measure => simp [intOf]; omega
            · first | omega | (simp at u8; done)
            · first | omega | (simp at u8; done)
      · go_wp2_with fail
        go_returns
        exact ⟨rfl, Q.k.none_below⟩
    · go_wp2_with fail
      go_returns
      exact ⟨rfl, Q.k.none_below⟩

set_option maxHeartbeats 2000000 in
set_option maxRecDepth 100000 in
theorem queueMarks_walk (x y : Int) (A : Option Addr) (len cap : Nat) (w : World) {n : Nat} (wx : (Lit.int .u8 x).wf = true) (wy : (Lit.int .u8 y).wf = true) (hf : Fits Try.prog w n 22 [.slice A len cap]) :
    Calls Try.prog 4 #[.int .u8 x, .int .u8 y, .slice A len cap] w fun e w' => e = .returned (.bool true) ∧ Below w.heap.size w w' := by
  have bx := bounds_u8 wx
  have by' := bounds_u8 wy
  rcases Int.lt_trichotomy x y with hc | hc | hc
  · exact marks_lt x y A len cap w wx wy hf hc
  · rcases Int.lt_or_le x 1 with h1 | h1
    · exact marks_0 x y A len cap w wx wy hf (by omega) (by omega)
    · exact marks_eq x y A len cap w wx wy hf hc h1
  · exact marks_gt x y A len cap w wx wy hf hc

end Go.Proofs.Ytklicfagdpjhdaa
