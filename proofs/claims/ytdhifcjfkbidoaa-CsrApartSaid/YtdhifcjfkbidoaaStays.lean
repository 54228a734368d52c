/- The walk of the law 'CsrStays'. -/
import Derived.Test.YtdhifcjfkbidoaaLines
set_option linter.unusedVariables false
namespace Go.Proofs.Ytdhifcjfkbidoaa
open Go.RowKit Go.Proofs.YtdhifcjfkbidoaaW.PrintWords

theorem Try.cells44 : Try.prog.cellsOf 44 = 3 := by kernel_rfl
theorem list3 {α : Type} {l : List α} (h : l.length = 3) : ∃ a b c, l = [a, b, c] := by
  match l, h with
  | [a, b, c], _ => exact ⟨a, b, c, rfl⟩
theorem arr_of {cs : Array Value} {l : List Value} (h : cs.toList = l) : cs = l.toArray := by subst h; rfl
/-- A kind's cells. -/
theorem open_kind {w : World} {n : Nat} {cs : List Value} (h : Fits Try.prog w n 44 cs) : ∃ R P C : BitVec 32, cs = [.int .u32 (U R), .int .u32 (U P), .int .u32 (U C)] := by
  obtain ⟨hl, hf⟩ := h.struct Try.underlying44
  rw [Try.cells44] at hl
  obtain ⟨c0, c1, c2, rfl⟩ := list3 hl
  obtain ⟨m0, f0⟩ := hf 0 _ rfl
  obtain ⟨m1, f1⟩ := hf 1 _ rfl
  obtain ⟨m2, f2⟩ := hf 2 _ rfl
  simp [Try.cells23] at f0 f1 f2
  obtain ⟨r, h0, w0⟩ := f0.int Try.underlying23
  obtain ⟨p, h1, w1⟩ := f1.int Try.underlying23
  obtain ⟨c, h2, w2⟩ := f2.int Try.underlying23
  simp at h0 h1 h2
  subst h0 h1 h2
  obtain ⟨R, rfl⟩ := U_of (bounds_u32 w0)
  obtain ⟨P, rfl⟩ := U_of (bounds_u32 w1)
  obtain ⟨C, rfl⟩ := U_of (bounds_u32 w2)
  exact ⟨R, P, C, rfl⟩

theorem U_not (X : BitVec 32) : bits .xor .u32 IntKind.u32.max (U X) = U (~~~X) := by
  rw [show IntKind.u32.max = ((4294967295 : Nat) : Int) from by decide]
  unfold U
  rw [u32_xor_nat _ _ (by decide) X.isLt, show (4294967295 : Nat) = (BitVec.allOnes 32).toNat from rfl, ← BitVec.toNat_xor, BitVec.allOnes_xor]

/-- What the bus lets a register be, and what stands of it. -/
theorem stays (P C V Y : BitVec 32) (h : P &&& C = 0) :
    (((V &&& ~~~P) ||| (Y &&& P)) &&& ~~~(Y &&& C)) &&& ~~~(P ||| C) = V &&& ~~~(P ||| C) ∧ (((V &&& ~~~P) ||| (Y &&& P)) &&& ~~~(Y &&& C)) &&& P = Y &&& P ∧
      (((V &&& ~~~P) ||| (Y &&& P)) &&& ~~~(Y &&& C)) &&& C = V &&& ~~~Y &&& C := by
  have hb : ∀ i, P.getLsbD i = false ∨ C.getLsbD i = false := by
    intro i
    have := congrArg (fun z => z.getLsbD i) h
    simp at this
    cases hp : P.getLsbD i
    · exact .inl rfl
    · exact .inr (this hp)
  refine ⟨?_, ?_, ?_⟩
  all_goals
    refine BitVec.eq_of_getLsbD_eq fun i hi => ?_
    simp only [BitVec.getLsbD_and, BitVec.getLsbD_or, BitVec.getLsbD_not, hi, decide_true, Bool.true_and]
    rcases hb i with e | e <;> rw [e] <;> cases P.getLsbD i <;> cases C.getLsbD i <;> cases V.getLsbD i <;> cases Y.getLsbD i <;> rfl

set_option maxHeartbeats 1000000 in
set_option maxRecDepth 100000 in
theorem csrStays_walk (cs : Array Value) (x : Int) (A : Option Addr) (len cap : Nat) (w : World) {n0 n : Nat} (hk : Fits Try.prog w n0 44 cs.toList) (wx : (Lit.int .u32 x).wf = true) (hf : Fits Try.prog w n 33 [.slice A len cap]) :
    Calls Try.prog 5 #[.agg cs, .int .u32 x, .slice A len cap] w fun e w' => e = .returned (.bool true) ∧ Below w.heap.size w w' := by
  obtain ⟨R, P, C0, hcs⟩ := open_kind hk
  obtain rfl := arr_of hcs
  obtain ⟨X, rfl⟩ := U_of (bounds_u32 wx)
  obtain ⟨hl, hm, hel⟩ := open_words hf Try.underlying33
  unfold maxLen at hm
  have hel := hide hel
  clear hf wx hk hcs
  obtain ⟨C, hC⟩ : ∃ C, C = C0 &&& ~~~P := ⟨_, rfl⟩
  have eC : bits .andNot .u32 (U C0) (U P) = U C := by rw [U_andNot, hC]
  have ePC : bits .and .u32 (U P) (U C) = 0 := by
    rw [U_and, ← U_0, U_inj, hC]
    ext i hi
    simp
    intro a b
    exact a
  go_enter Try.func5, Try.ntmps5
  go_wp2_with fail
  have B0 := Blk.new w #[.int .u32 (U R), .int .u32 (U P), .int .u32 (U C0)] 44
  have cB0 := B0.cell; have fB0 := B0.frozen
  refine (shown_at _).mono ?_
  rintro e w1 ⟨rfl, k1⟩
  try clear cB0 fB0
  replace B0 := B0.turns k1 (by intro hh; first | exact False.elim hh | ((try simp only at hh); omega) | (simp at hh; omega))
  have cB0 := B0.cell; have fB0 := B0.frozen
  have hPC : Hid (P &&& C = 0) := hide (U_inj.1 (by rw [← U_and, ePC, U_0]))
  clear hC
  have l1 := B0.lt
  have hk2 : KindsAt ((w1.setCell ⟨w.heap.size, 2, none⟩ (.int .u32 (U C))).alloc (.cells #[.int .u32 (U R), .int .u32 (U P), .int .u32 (U C)] 44)) (some ⟨w1.heap.size, 0, none⟩) [⟨U R, U P, U C⟩] := by
    have B := Blk.new (w1.setCell ⟨w.heap.size, 2, none⟩ (.int .u32 (U C))) #[.int .u32 (U R), .int .u32 (U P), .int .u32 (U C)] 44
    intro i k hk
    match i, hk with
    | 0, hk => simp at hk; subst hk; exact ⟨_, _, by simp, B.lt, B.cell 0, B.cell 1, B.cell 2⟩
  go_wp2_with fail
  refine (real_law _ _ [⟨U R, U P, U C⟩] _ hk2 (by simp)).mono ?_
  rintro e w3 ⟨k3, A', c', rfl, hk3⟩
  clear hk2
  have B0 : Blk w3 w.heap.size #[.int .u32 (U R), .int .u32 (U P), .int .u32 (U C)] 44 := by
    refine Blk.turns (Blk.alloc ?_ _) k3 (by intro hh; first | exact False.elim hh | ((try simp only at hh); omega) | (simp at hh; omega))
    simpa using B0.set 2 (.int .u32 (U C))
  clear cB0 fB0
  have K1 : Turns nobody w (w1.setCell ⟨w.heap.size, 2, none⟩ (.int .u32 (U C))) := (by repeat' (first | exact Turns.refl _ _ | assumption | exact Or.inl rfl | exact Or.inr (Nat.le_refl _) | apply Turns.alloc | apply Turns.drew | apply Turns.drewN | apply Turns.setCell | (apply Or.inr; simp; done) | (apply Or.inr; simp; omega) | exact fun _ hh => False.elim hh | exact fun _ hh => Or.inl hh | (intro i hi; right; (try simp only at hi); omega) | (intro i hi; right; simp at hi; omega) | refine Turns.step ?_ (by assumption) ?_))
  have K3 : Turns nobody w w3 := (K1.alloc _).trans k3
  clear K1 k3
  have l0 := B0.lt
  go_wp2_with fail
  refine (new_law _ _ [⟨U R, U P, U C⟩] _ hk3 (by simp) (by simp)).mono ?_
  rintro e w4 ⟨k4, ⟨_, x, hx, hbad⟩ | ⟨_, b, g, o, c, rfl, F⟩⟩
  · simp at hx
    subst hx
    exact absurd ePC hbad
  · have K4 : Turns nobody w w4 := K3.trans k4
    have hb := F.bb
    have hg := F.bg
    have F : FAt w4 w.heap.size b g o c [⟨U R, U P, U C, U R⟩] := F.weaken (by have := K3.size; omega)
    clear hk3
    replace B0 := B0.turns k4 (by intro hh; first | exact False.elim hh | ((try simp only at hh); omega) | (simp at hh; omega))
    go_wp2_with fail
    refine (raise_at F 0 (r := ⟨U R, U P, U C, U R⟩) rfl (U X)).mono ?_
    rintro e w5 ⟨rfl, F5, k5⟩
    try clear cB0 fB0
    replace B0 := B0.turns k5 (by intro hh; first | exact False.elim hh | ((try simp only at hh); omega) | (simp at hh; omega))
    have cB0 := B0.cell; have fB0 := B0.frozen
    have K5 := fat_step F K4 k5 (fun _ h => h)
    rw [U_or] at F5
    have F5 : FAt w5 w.heap.size b g o c [⟨U R, U P, U C, U (R ||| X)⟩] := F5
    have hsg : IntKind.u32.signed = false := rfl
    have eor := U_or P C
    have exo := U_not (P ||| C)
    go_wp2_with fail
    clear eC hsg eor exo
    clear F
    go_loopw [11] (fun i wr => ∃ (k : Nat) (V : BitVec 32), k ≤ len ∧ i = .int .i64 k ∧ FAt wr w.heap.size b g o c [⟨U R, U P, U C, U V⟩] ∧ Blk wr w.heap.size #[.int .u32 (U R), .int .u32 (U P), .int .u32 (U C)] 44 ∧ Turns nobody w wr) (fun i _ => len - (intOf i).toNat)
    case atStart => exact ⟨0, _, Nat.zero_le _, rfl, F5, B0, K5⟩
    case round =>
      clear F5 K5 B0 cB0 fB0
      obtain ⟨k, V, hle, rfl, F, B0, K⟩ := hrel
      have cB0 := B0.cell; have fB0 := B0.frozen
      by_cases hlt : k < len
      · by_cases hlt2 : k < 100
        · obtain ⟨b1, o1, Y, rfl, hb1, hc1⟩ := hel.out k hlt
          have c1 : wr.cell? ⟨b1, o1 + k, none⟩ = some (.int .u32 (U Y)) := (K.none_below.cell (by exact hb1)).trans hc1
          have i0 : (0 : Int) ≤ (k : Int) := by omega
          have i1 : (k : Int) < (len : Int) := by omega
          go_wp2_with fail
          refine (get_at F 0 (r := ⟨U R, U P, U C, U V⟩) rfl).mono ?_
          rintro e w6 ⟨rfl, k6⟩
          try clear cB0 fB0
          replace B0 := B0.turns k6 (by intro hh; first | exact False.elim hh | ((try simp only at hh); omega) | (simp at hh; omega))
          have cB0 := B0.cell; have fB0 := B0.frozen
          have F6 := F.still k6
          have c6 : w6.cell? ⟨b1, o1 + k, none⟩ = some (.int .u32 (U Y)) := ((K.trans k6).none_below.cell (by exact hb1)).trans hc1
          go_wp2_with fail
          refine (write_at F6 0 (r := ⟨U R, U P, U C, U V⟩) rfl (U Y)).mono ?_
          rintro e w7 ⟨rfl, F7, k7⟩
          try clear cB0 fB0
          replace B0 := B0.turns k7 (by intro hh; first | exact False.elim hh | ((try simp only at hh); omega) | (simp at hh; omega))
          have cB0 := B0.cell; have fB0 := B0.frozen
          have K7 := fat_step F6 (K.trans k6) k7 (fun _ h => h)
          rw [U_bus _ P C V Y rfl rfl rfl] at F7
          obtain ⟨s1, s2, s3⟩ := stays P C V Y hPC.out
          obtain ⟨V', hV'⟩ : ∃ V', V' = ((V &&& ~~~P) ||| (Y &&& P)) &&& ~~~(Y &&& C) := ⟨_, rfl⟩
          rw [← hV'] at F7 s1 s2 s3
          have F7 : FAt w7 w.heap.size b g o c [⟨U R, U P, U C, U V'⟩] := F7
          clear hV'
          go_wp2_with fail
          refine (read_at F7 0 (r := ⟨U R, U P, U C, U V'⟩) rfl).mono ?_
          rintro e w8 ⟨rfl, k8⟩
          try clear cB0 fB0
          replace B0 := B0.turns k8 (by intro hh; first | exact False.elim hh | ((try simp only at hh); omega) | (simp at hh; omega))
          have cB0 := B0.cell; have fB0 := B0.frozen
          have F8 := hide (F7.still k8)
          have K8 := K7.trans k8
          have c8 : w8.cell? ⟨b1, o1 + k, none⟩ = some (.int .u32 (U Y)) := (K8.none_below.cell (by exact hb1)).trans hc1
          have qF := fun (p : Later w8) => F8.out.still p.h
          have qx := fun (p : Later w8) => Later.cell c8 p
          have e1 : bits .and .u32 (U V') (U (~~~(P ||| C))) = U (V &&& ~~~(P ||| C)) := by rw [U_and, s1]
          have e2 : bits .and .u32 (U V) (U (~~~(P ||| C))) = U (V &&& ~~~(P ||| C)) := U_and _ _
          have e3 : bits .and .u32 (U V') (U P) = U (Y &&& P) := by rw [U_and, s2]
          have e4 : bits .and .u32 (U Y) (U P) = U (Y &&& P) := U_and _ _
          have e5 : bits .and .u32 (U V') (U C) = U (V &&& ~~~Y &&& C) := by rw [U_and, s3]
          have e6 : bits .andNot .u32 (U V) (U Y) = U (V &&& ~~~Y) := U_andNot _ _
          have e7 : bits .and .u32 (U (V &&& ~~~Y)) (U C) = U (V &&& ~~~Y &&& C) := U_and _ _
          clear s1 s2 s3
          go_wp2_with fail
          have qB0 := fun (p : Later w8) => (B0.turns p.h (by intro hh; first | exact False.elim hh | ((try simp only at hh); omega) | (simp at hh; omega))).cell
          refine wp_region_later (by kernel_rfl) (by kernel_rfl) ?_
          repeat (go_big_quiet_step ((go_at_call 12; exact Later.calls (get_at (qF _) 0 (r := ⟨U R, U P, U C, U V'⟩) rfl))))
          refine wpQuiet_nil ?_
          rintro _ ⟨⟨wq, kq⟩, rfl⟩
          clear qB0
          try clear cB0 fB0
          replace B0 := B0.turns kq (by intro hh; first | exact False.elim hh | ((try simp only at hh); omega) | (simp at hh; omega))
          have cB0 := B0.cell; have fB0 := B0.frozen
          clear e1 e2 e3 e4 e5 e6 e7
          have K9 := K8.trans kq
          go_wp2_with fail
          go_roundw
          case rel => exact ⟨k + 1, V', by omega, by go_num, F8.out.still kq, B0, K9⟩
          case measure => simp [intOf]; omega
        · skip
          go_wp2_with fail
          refine (reset_at F).mono ?_
          rintro e w6 ⟨rfl, F6, k6⟩
          try clear cB0 fB0
          replace B0 := B0.turns k6 (by intro hh; first | exact False.elim hh | ((try simp only at hh); omega) | (simp at hh; omega))
          have cB0 := B0.cell; have fB0 := B0.frozen
          have K6 := fat_step F K k6 (fun _ h => h)
          have F6 : FAt w6 w.heap.size b g o c [⟨U R, U P, U C, U R⟩] := F6
          have F6 := hide F6
          go_wp2_with fail
          have qF := fun (p : Later w6) => F6.out.still p.h
          have qB0 := fun (p : Later w6) => (B0.turns p.h (by intro hh; first | exact False.elim hh | ((try simp only at hh); omega) | (simp at hh; omega))).cell
          refine wp_region_later (by kernel_rfl) (by kernel_rfl) ?_
          repeat (go_big_quiet_step ((go_at_call 12; exact Later.calls (get_at (qF _) 0 (r := ⟨U R, U P, U C, U R⟩) rfl))))
          refine wpQuiet_nil ?_
          rintro _ ⟨⟨wq, kq⟩, rfl⟩
          clear qB0
          try clear cB0 fB0
          replace B0 := B0.turns kq (by intro hh; first | exact False.elim hh | ((try simp only at hh); omega) | (simp at hh; omega))
          have cB0 := B0.cell; have fB0 := B0.frozen
          go_wp2_with fail
          go_returns
          exact ⟨rfl, Turns.none_below (K6.trans kq)⟩
      · skip
        go_wp2_with fail
        refine (reset_at F).mono ?_
        rintro e w6 ⟨rfl, F6, k6⟩
        try clear cB0 fB0
        replace B0 := B0.turns k6 (by intro hh; first | exact False.elim hh | ((try simp only at hh); omega) | (simp at hh; omega))
        have cB0 := B0.cell; have fB0 := B0.frozen
        have K6 := fat_step F K k6 (fun _ h => h)
        have F6 : FAt w6 w.heap.size b g o c [⟨U R, U P, U C, U R⟩] := F6
        have F6 := hide F6
        go_wp2_with fail
        have qF := fun (p : Later w6) => F6.out.still p.h
        have qB0 := fun (p : Later w6) => (B0.turns p.h (by intro hh; first | exact False.elim hh | ((try simp only at hh); omega) | (simp at hh; omega))).cell
        refine wp_region_later (by kernel_rfl) (by kernel_rfl) ?_
        repeat (go_big_quiet_step ((go_at_call 12; exact Later.calls (get_at (qF _) 0 (r := ⟨U R, U P, U C, U R⟩) rfl))))
        refine wpQuiet_nil ?_
        rintro _ ⟨⟨wq, kq⟩, rfl⟩
        clear qB0
        try clear cB0 fB0
        replace B0 := B0.turns kq (by intro hh; first | exact False.elim hh | ((try simp only at hh); omega) | (simp at hh; omega))
        have cB0 := B0.cell; have fB0 := B0.frozen
        go_wp2_with fail
        go_returns
        exact ⟨rfl, Turns.none_below (K6.trans kq)⟩

end Go.Proofs.Ytdhifcjfkbidoaa
