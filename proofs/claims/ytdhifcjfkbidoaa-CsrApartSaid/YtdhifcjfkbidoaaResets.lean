/- The walk of the law 'CsrResets'. -/
import Derived.Test.YtdhifcjfkbidoaaStays
import Derived.Test.YtdhifcjfkbidoaaSized
set_option linter.unusedVariables false
namespace Go.Proofs.Ytdhifcjfkbidoaa
open Go.RowKit Go.Proofs.YtdhifcjfkbidoaaW.PrintWords

theorem Try.cells25 : Try.prog.cellsOf 25 = 5 := by kernel_rfl
theorem Try.cells3 : Try.prog.cellsOf 3 = 1 := by kernel_rfl
theorem list5 {α : Type} {l : List α} (h : l.length = 5) : ∃ a b c d e, l = [a, b, c, d, e] := by
  match l, h with
  | [a, b, c, d, e], _ => exact ⟨a, b, c, d, e, rfl⟩

instance : Inhabited Kd := ⟨⟨0, 0, 0⟩⟩
/-- The kinds that are handed in. -/
theorem open_kinds {w : World} {n : Nat} {A : Option Addr} {len cap : Nat} (hf : Fits Try.prog w n 22 [.slice A len cap]) : ∃ ks : List Kd, ks.length = len ∧ KindsAt w A ks := by
  obtain ⟨A', len', cap', he', hl, hm, _, h⟩ := hf.slice Try.underlying22 (by rw [Try.cells44]; decide)
  simp at he'
  obtain ⟨rfl, rfl, rfl⟩ := he'
  have h2 : ∀ i, i < len → ∃ k : Kd, ∃ b o, A = some ⟨b, o, none⟩ ∧ b < w.heap.size ∧ w.cell? ⟨b, o + i * 3, none⟩ = some (.int .u32 k.r) ∧ w.cell? ⟨b, o + i * 3 + 1, none⟩ = some (.int .u32 k.p) ∧ w.cell? ⟨b, o + i * 3 + 2, none⟩ = some (.int .u32 k.c) := by
    intro i hi
    obtain ⟨b, o, xs, m, hA, hcell, hx⟩ := h i hi
    obtain ⟨R, P, C, rfl⟩ := open_kind hx
    rw [Try.cells44] at hcell
    exact ⟨⟨U R, U P, U C⟩, b, o, hA, block_lt_of_cell (hcell 0 _ rfl), hcell 0 _ rfl, hcell 1 _ rfl, hcell 2 _ rfl⟩
  obtain ⟨f, hf2⟩ := Deep.choose_lt h2
  refine ⟨(List.range len).map f, by simp, fun i k hk => ?_⟩
  have hil : i < len := by
    have := (List.getElem?_eq_some_iff.1 hk).1
    simpa using this
  simp [hil] at hk
  subst hk
  exact hf2 i hil

/-- A deed that is handed in: its place of the bus, its register, its bits. -/
theorem open_deeds {w : World} {n : Nat} {A : Option Addr} {len cap : Nat} (hf : Fits Try.prog w n 46 [.slice A len cap]) : len ≤ cap ∧ cap ≤ maxLen ∧
    ∀ i, i < len → ∃ b o, ∃ q j k at' v : Int, A = some ⟨b, o, none⟩ ∧ b < w.heap.size ∧ (0 ≤ at' ∧ at' ≤ 4294967295) ∧ w.cell? ⟨b, o + i * 5, none⟩ = some (.int .i64 q) ∧ w.cell? ⟨b, o + i * 5 + 1, none⟩ = some (.int .i64 j) ∧
      w.cell? ⟨b, o + i * 5 + 2, none⟩ = some (.int .i64 k) ∧ w.cell? ⟨b, o + i * 5 + 3, none⟩ = some (.int .u32 at') ∧ w.cell? ⟨b, o + i * 5 + 4, none⟩ = some (.int .u32 v) := by
  obtain ⟨A', len', cap', he', hl, hm, _, h⟩ := hf.slice Try.underlying46 (by rw [Try.cells25]; decide)
  simp at he'
  obtain ⟨rfl, rfl, rfl⟩ := he'
  refine ⟨hl, hm, fun i hi => ?_⟩
  obtain ⟨b, o, xs, m, hA, hcell, hx⟩ := h i hi
  obtain ⟨hxl, hff⟩ := hx.struct Try.underlying25
  rw [Try.cells25] at hxl hcell
  obtain ⟨c0, c1, c2, c3, c4, rfl⟩ := list5 hxl
  obtain ⟨m0, f0⟩ := hff 0 _ rfl
  obtain ⟨m1, f1⟩ := hff 1 _ rfl
  obtain ⟨m2, f2⟩ := hff 2 _ rfl
  obtain ⟨m3, f3⟩ := hff 3 _ rfl
  obtain ⟨m4, f4⟩ := hff 4 _ rfl
  simp [Try.cells23, Try.cells3] at f0 f1 f2 f3 f4
  obtain ⟨q, h0, w0⟩ := f0.int Try.underlying3
  obtain ⟨j, h1, w1⟩ := f1.int Try.underlying3
  obtain ⟨k, h2, w2⟩ := f2.int Try.underlying3
  obtain ⟨a, h3, w3⟩ := f3.int Try.underlying23
  obtain ⟨v, h4, w4⟩ := f4.int Try.underlying23
  simp at h0 h1 h2 h3 h4
  subst h0 h1 h2 h3 h4
  have ba := bounds_u32 w3
  exact ⟨b, o, q, j, k, a, v, hA, block_lt_of_cell (hcell 0 _ rfl), ba, hcell 0 _ rfl, hcell 1 _ rfl, hcell 2 _ rfl, hcell 3 _ rfl, hcell 4 _ rfl⟩

def fresh (rs : List Reg) : List Reg := rs.map (fun r => { r with v := r.r })
theorem fresh_set {rs : List Reg} {i : Nat} {r : Reg} (h : rs[i]? = some r) (v : Int) : fresh (rs.set i { r with v := v }) = fresh rs := by
  unfold fresh
  apply List.ext_getElem?
  intro j
  rw [List.getElem?_map, List.getElem?_map]
  by_cases hij : i = j
  · subst hij
    rw [List.getElem?_set_self (List.getElem?_eq_some_iff.1 h).1, h]
    rfl
  · rw [List.getElem?_set_ne hij]
theorem fresh_kinds (ks : List Kd) : fresh (ks.map regOf) = ks.map regOf := by
  unfold fresh
  rw [List.map_map]
  rfl

theorem write_any {w : World} {base b g o cap : Nat} {rs : List Reg} (hf : FAt w base b g o cap rs) (a v : Int) (h0 : 0 ≤ a) (h1 : a ≤ 4294967295) :
    Calls Try.prog 13 #[.pointer (some ⟨b, 0, none⟩), .int .u32 a, .int .u32 v] w fun e w' => ∃ x rs', e = .returned (.int .i64 x) ∧ FAt w' base b g o cap rs' ∧ fresh rs' = fresh rs ∧ Turns (· = g) w w' := by
  by_cases h : a % 4 ≠ 0 ∨ (rs.length : Int) ≤ a / 4
  · exact (write_none hf a v h0 h1 h).mono (by rintro e w' ⟨he, k⟩; exact ⟨_, _, he, hf.still k, rfl, k.mono (fun _ _ hh => hh.elim)⟩)
  · obtain ⟨i, rfl⟩ : ∃ i : Nat, a = 4 * (i : Int) := ⟨(a / 4).toNat, by omega⟩
    obtain ⟨r, hr⟩ : ∃ r, rs[i]? = some r := ⟨_, List.getElem?_eq_getElem (by omega)⟩
    exact (write_at hf i hr v).mono (by rintro e w' ⟨he, hF, k⟩; exact ⟨_, _, he, hF, fresh_set hr _, k⟩)
theorem raise_any {w : World} {base b g o cap : Nat} {rs : List Reg} (hf : FAt w base b g o cap rs) (i v : Int) :
    Calls Try.prog 16 #[.pointer (some ⟨b, 0, none⟩), .int .i64 i, .int .u32 v] w fun e w' => ∃ x rs', e = .returned (.int .i64 x) ∧ FAt w' base b g o cap rs' ∧ fresh rs' = fresh rs ∧ Turns (· = g) w w' := by
  rcases at_cases rs i with h | ⟨k, r, rfl, hr⟩
  · exact (raise_none hf i v h).mono (by rintro e w' ⟨he, k⟩; exact ⟨_, _, he, hf.still k, rfl, k.mono (fun _ _ hh => hh.elim)⟩)
  · exact (raise_at hf k hr v).mono (by rintro e w' ⟨he, hF, k⟩; exact ⟨_, _, he, hF, fresh_set hr _, k⟩)

theorem Try.bytes44 : Try.prog.bytesOf 44 = 12 := by kernel_rfl

set_option maxHeartbeats 2000000 in
set_option maxRecDepth 100000 in
theorem csrResets_walk (A : Option Addr) (len cap : Nat) (A2 : Option Addr) (len2 cap2 : Nat) (w : World) {n n2 : Nat} (hf : Fits Try.prog w n 22 [.slice A len cap]) (hz : len * Try.prog.bytesOf 44 ≤ 140737488351232)
    (hf2 : Fits Try.prog w n2 46 [.slice A2 len2 cap2]) (hz2 : len2 * Try.prog.bytesOf 25 ≤ 140737488351232) :
    Calls Try.prog 6 #[.slice A len cap, .slice A2 len2 cap2] w fun e w' => e = .returned (.bool true) ∧ Below w.heap.size w w' := by
  rw [Try.bytes44] at hz
  obtain ⟨ks, rfl, hk⟩ := open_kinds hf
  obtain ⟨hl2, hm2, hd⟩ := open_deeds hf2
  unfold maxLen at hm2
  replace hd := hide hd
  replace hk := hide hk
  clear hf hf2 hz2
  go_enter Try.func6, Try.ntmps6
  go_wp2_with fail
  refine (shown_at _).mono ?_
  rintro e w1 ⟨rfl, k1⟩
  go_wp2_with fail
  refine (real_law A cap ks _ (hk.out.still k1) hz).mono ?_
  rintro e w2 ⟨k2, A', c', rfl, hk2⟩
  have K2 : Turns nobody w w2 := (by repeat' (first | exact Turns.refl _ _ | assumption | exact Or.inl rfl | exact Or.inr (Nat.le_refl _) | apply Turns.alloc | apply Turns.drew | apply Turns.drewN | apply Turns.setCell | (apply Or.inr; simp; done) | (apply Or.inr; simp; omega) | exact fun _ hh => False.elim hh | exact fun _ hh => Or.inl hh | (intro i hi; right; (try simp only at hi); omega) | (intro i hi; right; simp at hi; omega) | refine Turns.step ?_ (by assumption) ?_))
  by_cases hlen : ks.length = 0 ∨ 64 < ks.length
  · clear hk2
    go_wp2_with fail
    refine (new_len A' ks.length c' _ hlen).mono ?_
    rintro e w3 ⟨rfl, k3⟩
    go_wp2_with fail
    go_returns
    exact ⟨rfl, Turns.none_below (by repeat' (first | exact Turns.refl _ _ | assumption | exact Or.inl rfl | exact Or.inr (Nat.le_refl _) | apply Turns.alloc | apply Turns.drew | apply Turns.drewN | apply Turns.setCell | (apply Or.inr; simp; done) | (apply Or.inr; simp; omega) | exact fun _ hh => False.elim hh | exact fun _ hh => Or.inl hh | (intro i hi; right; (try simp only at hi); omega) | (intro i hi; right; simp at hi; omega) | refine Turns.step ?_ (by assumption) ?_))⟩
  · replace hk2 := hide hk2
    go_wp2_with fail
    refine (new_law A' c' ks _ hk2.out (by omega) (by omega)).mono ?_
    rintro e w3 ⟨k3, ⟨rfl, _⟩ | ⟨_, b, g, o, c, rfl, F⟩⟩
    · go_wp2_with fail
      go_returns
      exact ⟨rfl, Turns.none_below (by repeat' (first | exact Turns.refl _ _ | assumption | exact Or.inl rfl | exact Or.inr (Nat.le_refl _) | apply Turns.alloc | apply Turns.drew | apply Turns.drewN | apply Turns.setCell | (apply Or.inr; simp; done) | (apply Or.inr; simp; omega) | exact fun _ hh => False.elim hh | exact fun _ hh => Or.inl hh | (intro i hi; right; (try simp only at hi); omega) | (intro i hi; right; simp at hi; omega) | refine Turns.step ?_ (by assumption) ?_))⟩
    · have F : FAt w3 w.heap.size b g o c (ks.map regOf) := F.weaken K2.size
      have K3 : Turns nobody w w3 := (by repeat' (first | exact Turns.refl _ _ | assumption | exact Or.inl rfl | exact Or.inr (Nat.le_refl _) | apply Turns.alloc | apply Turns.drew | apply Turns.drewN | apply Turns.setCell | (apply Or.inr; simp; done) | (apply Or.inr; simp; omega) | exact fun _ hh => False.elim hh | exact fun _ hh => Or.inl hh | (intro i hi; right; (try simp only at hi); omega) | (intro i hi; right; simp at hi; omega) | refine Turns.step ?_ (by assumption) ?_))
      clear hk2
      go_wp2_with fail
      go_loopw [8] (fun i wr => ∃ (k : Nat) (rs : List Reg), k ≤ len2 ∧ i = .int .i64 k ∧ FAt wr w.heap.size b g o c rs ∧ fresh rs = ks.map regOf ∧ Turns nobody w wr) (fun i _ => len2 - (intOf i).toNat)
      case atStart => exact ⟨0, _, Nat.zero_le _, rfl, F, fresh_kinds _, K3⟩
      case round =>
        clear F K3 hlen
        obtain ⟨k, rs, hle, rfl, F, hfr, K⟩ := hrel
        by_cases hlt : k < len2
        · by_cases hlt2 : k < 50
          · obtain ⟨b1, o1, q, j, kk, at', v, rfl, hb1, ha, d0, d1, d2, d3, d4⟩ := hd.out k hlt
            have c3 := (K.none_below.cell (by exact hb1)).trans d3
            have c4 := (K.none_below.cell (by exact hb1)).trans d4
            have i0 : (0 : Int) ≤ (k : Int) := by omega
            have i1 : (k : Int) < (len2 : Int) := by omega
            have ha0 := ha.1; have ha1 := ha.2
            go_wp2_with fail
            go_still_tail 11, (by kernel_rfl)
            change wpList _ _ _ _ _ wr.drew
            go_wp2_with fail
            refine (write_any (F.still ((Turns.refl nobody wr).drew)) at' v ha0 ha1).mono ?_
            rintro e w4 ⟨x4, rs4, rfl, F4, hfr4, k4⟩
            have K4 := fat_step (F.still ((Turns.refl nobody wr).drew)) (K.trans ((Turns.refl nobody wr).drew)) k4 (fun _ h => h)
            have c1 := (K4.none_below.cell (by exact hb1)).trans d1
            replace c4 := (K4.none_below.cell (by exact hb1)).trans d4
            clear c3
            go_wp2_with fail
            go_still_tail 11, (by kernel_rfl)
            change wpList _ _ _ _ _ w4.drew
            go_wp2_with fail
            refine (raise_any (F4.still ((Turns.refl nobody w4).drew)) j v).mono ?_
            rintro e w5 ⟨x5, rs5, rfl, F5, hfr5, k5⟩
            have K5 := fat_step (F4.still ((Turns.refl nobody w4).drew)) (K4.trans ((Turns.refl nobody w4).drew)) k5 (fun _ h => h)
            go_wp2_with fail
            go_roundw
            case rel => exact ⟨k + 1, rs5, by omega, by go_num, F5, by rw [hfr5, hfr4, hfr], K5⟩
            case measure => simp [intOf]; omega
          · skip
            go_wp2_with fail
            refine (reset_at F).mono ?_
            rintro e w4 ⟨rfl, F4, k4⟩
            have K4 := fat_step F K k4 (fun _ h => h)
            rw [show rs.map (fun r => { r with v := r.r }) = fresh rs from rfl, hfr] at F4
            go_wp2_with fail
            refine (reset_at F4).mono ?_
            rintro e w5 ⟨rfl, F5, k5⟩
            have K5 := fat_step F4 K4 k5 (fun _ h => h)
            rw [show (ks.map regOf).map (fun r => { r with v := r.r }) = fresh (ks.map regOf) from rfl, fresh_kinds] at F5
            have h64 := F5.few
            rw [List.length_map] at h64
            clear F F4 k4 K4 k5
            go_wp2_with fail
            go_loopw [9] (fun i wl => ∃ q : Nat, q ≤ ks.length ∧ i = .int .i64 q ∧ FAt wl w.heap.size b g o c (ks.map regOf) ∧ Turns nobody w wl) (fun i _ => ks.length - (intOf i).toNat)
            case atStart => exact ⟨0, Nat.zero_le _, rfl, F5, K5⟩
            case round =>
              clear F5 K5
              obtain ⟨q, hq, rfl, F, K⟩ := hrel
              by_cases hlq : q < ks.length
              · obtain ⟨x, hx⟩ : ∃ x, ks[q]? = some x := ⟨_, List.getElem?_eq_getElem hlq⟩
                obtain ⟨b7, o7, rfl, hb7, d7, _, _⟩ := hk.out q x hx
                have hr : (ks.map regOf)[q]? = some ⟨x.r, x.p, x.c, x.r⟩ := by simp [hx, regOf]
                have hw : IntKind.u32.wrap (4 * (q : Int)) = 4 * q := by rw [IntKind.wrap_u32']; omega
                have hw2 : IntKind.i64.wrap (4 * (q : Int)) = 4 * q := IntWalk.i64_in _ ⟨by omega, by omega⟩
                have i0 : (0 : Int) ≤ (q : Int) := by omega
                have i1 : (q : Int) < (ks.length : Int) := by omega
                go_wp2_with fail
                refine (read_at F q hr).mono ?_
                rintro e w6 ⟨rfl, k6⟩
                have F6 := hide (F.still k6)
                have K6 := K.trans k6
                have c6 : w6.cell? ⟨b7, o7 + q * 3, none⟩ = some (.int .u32 x.r) := (K6.none_below.cell (by exact hb7)).trans d7
                have qF := fun (p : Later w6) => F6.out.still p.h
                have qx := fun (p : Later w6) => Later.cell c6 p
                replace hr := hide hr
                go_wp2_with fail
                refine wp_region_later (by kernel_rfl) (by kernel_rfl) ?_
                repeat (go_big_quiet_step ((go_at_call 12; exact Later.calls (get_at (qF _) q hr.out))))
                refine wpQuiet_nil ?_
                rintro _ ⟨⟨wq, kq⟩, rfl⟩
                have F7 := F6.out.still kq
                have K7 := K6.trans kq
                go_wp2_with fail
                go_roundw
                case rel => exact ⟨q + 1, by omega, by go_num, F7, K7⟩
                case measure => simp [intOf]; omega
              · obtain rfl : q = ks.length := by omega
                go_wp2_with fail
                go_returns
                exact ⟨rfl, Turns.none_below K⟩
        · skip
          go_wp2_with fail
          refine (reset_at F).mono ?_
          rintro e w4 ⟨rfl, F4, k4⟩
          have K4 := fat_step F K k4 (fun _ h => h)
          rw [show rs.map (fun r => { r with v := r.r }) = fresh rs from rfl, hfr] at F4
          go_wp2_with fail
          refine (reset_at F4).mono ?_
          rintro e w5 ⟨rfl, F5, k5⟩
          have K5 := fat_step F4 K4 k5 (fun _ h => h)
          rw [show (ks.map regOf).map (fun r => { r with v := r.r }) = fresh (ks.map regOf) from rfl, fresh_kinds] at F5
          have h64 := F5.few
          rw [List.length_map] at h64
          clear F F4 k4 K4 k5
          go_wp2_with fail
          go_loopw [9] (fun i wl => ∃ q : Nat, q ≤ ks.length ∧ i = .int .i64 q ∧ FAt wl w.heap.size b g o c (ks.map regOf) ∧ Turns nobody w wl) (fun i _ => ks.length - (intOf i).toNat)
          case atStart => exact ⟨0, Nat.zero_le _, rfl, F5, K5⟩
          case round =>
            clear F5 K5
            obtain ⟨q, hq, rfl, F, K⟩ := hrel
            by_cases hlq : q < ks.length
            · obtain ⟨x, hx⟩ : ∃ x, ks[q]? = some x := ⟨_, List.getElem?_eq_getElem hlq⟩
              obtain ⟨b7, o7, rfl, hb7, d7, _, _⟩ := hk.out q x hx
              have hr : (ks.map regOf)[q]? = some ⟨x.r, x.p, x.c, x.r⟩ := by simp [hx, regOf]
              have hw : IntKind.u32.wrap (4 * (q : Int)) = 4 * q := by rw [IntKind.wrap_u32']; omega
              have hw2 : IntKind.i64.wrap (4 * (q : Int)) = 4 * q := IntWalk.i64_in _ ⟨by omega, by omega⟩
              have i0 : (0 : Int) ≤ (q : Int) := by omega
              have i1 : (q : Int) < (ks.length : Int) := by omega
              go_wp2_with fail
              refine (read_at F q hr).mono ?_
              rintro e w6 ⟨rfl, k6⟩
              have F6 := hide (F.still k6)
              have K6 := K.trans k6
              have c6 : w6.cell? ⟨b7, o7 + q * 3, none⟩ = some (.int .u32 x.r) := (K6.none_below.cell (by exact hb7)).trans d7
              have qF := fun (p : Later w6) => F6.out.still p.h
              have qx := fun (p : Later w6) => Later.cell c6 p
              replace hr := hide hr
              go_wp2_with fail
              refine wp_region_later (by kernel_rfl) (by kernel_rfl) ?_
              repeat (go_big_quiet_step ((go_at_call 12; exact Later.calls (get_at (qF _) q hr.out))))
              refine wpQuiet_nil ?_
              rintro _ ⟨⟨wq, kq⟩, rfl⟩
              have F7 := F6.out.still kq
              have K7 := K6.trans kq
              go_wp2_with fail
              go_roundw
              case rel => exact ⟨q + 1, by omega, by go_num, F7, K7⟩
              case measure => simp [intOf]; omega
            · obtain rfl : q = ks.length := by omega
              go_wp2_with fail
              go_returns
              exact ⟨rfl, Turns.none_below K⟩

end Go.Proofs.Ytdhifcjfkbidoaa
