/- The walk of the law 'CsrApart'. -/
import Derived.Test.YtdhifcjfkbidoaaResets
set_option linter.unusedVariables false
namespace Go.Proofs.Ytdhifcjfkbidoaa
open Go.RowKit Go.Proofs.YtdhifcjfkbidoaaW.PrintWords

/-- All but the one at 'at' stand. -/
def But (at' : Int) (rs rs' : List Reg) : Prop := rs'.length = rs.length ∧ ∀ i : Nat, (i : Int) ≠ at' → rs'[i]? = rs[i]?
theorem But.refl (at' : Int) (rs : List Reg) : But at' rs rs := ⟨rfl, fun _ _ => rfl⟩
theorem But.set (rs : List Reg) (k : Nat) (r : Reg) : But k rs (rs.set k r) := ⟨by simp, fun i hi => List.getElem?_set_ne (by omega)⟩

theorem write_apart {w : World} {base b g o cap : Nat} {rs : List Reg} (hf : FAt w base b g o cap rs) (a v : Int) (h0 : 0 ≤ a) (h1 : a ≤ 4294967295) :
    Calls Try.prog 13 #[.pointer (some ⟨b, 0, none⟩), .int .u32 a, .int .u32 v] w fun e w' => ∃ x rs', e = .returned (.int .i64 x) ∧ FAt w' base b g o cap rs' ∧ But (a / 4) rs rs' ∧ Turns (· = g) w w' := by
  by_cases h : a % 4 ≠ 0 ∨ (rs.length : Int) ≤ a / 4
  · exact (write_none hf a v h0 h1 h).mono (by rintro e w' ⟨he, k⟩; exact ⟨_, _, he, hf.still k, But.refl _ _, k.mono (fun _ _ hh => hh.elim)⟩)
  · obtain ⟨i, rfl⟩ : ∃ i : Nat, a = 4 * (i : Int) := ⟨(a / 4).toNat, by omega⟩
    obtain ⟨r, hr⟩ : ∃ r, rs[i]? = some r := ⟨_, List.getElem?_eq_getElem (by omega)⟩
    exact (write_at hf i hr v).mono (by rintro e w' ⟨he, hF, k⟩; exact ⟨_, _, he, hF, by rw [show 4 * (i : Int) / 4 = i from by omega]; exact But.set _ _ _, k⟩)
theorem read_any {w : World} {base b g o cap : Nat} {rs : List Reg} (hf : FAt w base b g o cap rs) (a : Int) (h0 : 0 ≤ a) (h1 : a ≤ 4294967295) :
    Calls Try.prog 14 #[.pointer (some ⟨b, 0, none⟩), .int .u32 a] w fun e w' => ∃ x y, e = .returned (.tuple #[.int .u32 x, .int .i64 y]) ∧ Turns nobody w w' := by
  by_cases h : a % 4 ≠ 0 ∨ (rs.length : Int) ≤ a / 4
  · exact (read_none hf a h0 h1 h).mono (by rintro e w' ⟨he, k⟩; exact ⟨_, _, he, k⟩)
  · obtain ⟨i, rfl⟩ : ∃ i : Nat, a = 4 * (i : Int) := ⟨(a / 4).toNat, by omega⟩
    obtain ⟨r, hr⟩ : ∃ r, rs[i]? = some r := ⟨_, List.getElem?_eq_getElem (by omega)⟩
    exact (read_at hf i hr).mono (by rintro e w' ⟨he, k⟩; exact ⟨_, _, he, k⟩)
theorem set_apart {w : World} {base b g o cap : Nat} {rs : List Reg} (hf : FAt w base b g o cap rs) (i v : Int) :
    Calls Try.prog 15 #[.pointer (some ⟨b, 0, none⟩), .int .i64 i, .int .u32 v] w fun e w' => ∃ x rs', e = .returned (.int .i64 x) ∧ FAt w' base b g o cap rs' ∧ But i rs rs' ∧ Turns (· = g) w w' := by
  rcases at_cases rs i with h | ⟨k, r, rfl, hr⟩
  · exact (set_none hf i v h).mono (by rintro e w' ⟨he, k⟩; exact ⟨_, _, he, hf.still k, But.refl _ _, k.mono (fun _ _ hh => hh.elim)⟩)
  · exact (set_at hf k hr v).mono (by rintro e w' ⟨he, hF, k⟩; exact ⟨_, _, he, hF, But.set _ _ _, k⟩)
theorem raise_apart {w : World} {base b g o cap : Nat} {rs : List Reg} (hf : FAt w base b g o cap rs) (i v : Int) :
    Calls Try.prog 16 #[.pointer (some ⟨b, 0, none⟩), .int .i64 i, .int .u32 v] w fun e w' => ∃ x rs', e = .returned (.int .i64 x) ∧ FAt w' base b g o cap rs' ∧ But i rs rs' ∧ Turns (· = g) w w' := by
  rcases at_cases rs i with h | ⟨k, r, rfl, hr⟩
  · exact (raise_none hf i v h).mono (by rintro e w' ⟨he, k⟩; exact ⟨_, _, he, hf.still k, But.refl _ _, k.mono (fun _ _ hh => hh.elim)⟩)
  · exact (raise_at hf k hr v).mono (by rintro e w' ⟨he, hF, k⟩; exact ⟨_, _, he, hF, But.set _ _ _, k⟩)

theorem open_deed {w : World} {n : Nat} {cs : List Value} (hx : Fits Try.prog w n 25 cs) :
    ∃ q j k a v : Int, cs = [.int .i64 q, .int .i64 j, .int .i64 k, .int .u32 a, .int .u32 v] ∧ 0 ≤ a ∧ a ≤ 4294967295 := by
  obtain ⟨hxl, hff⟩ := hx.struct Try.underlying25
  rw [Try.cells25] at hxl
  obtain ⟨c0, c1, c2, c3, c4, rfl⟩ := list5 hxl
  obtain ⟨m0, f0⟩ := hff 0 _ rfl
  obtain ⟨m1, f1⟩ := hff 1 _ rfl
  obtain ⟨m2, f2⟩ := hff 2 _ rfl
  obtain ⟨m3, f3⟩ := hff 3 _ rfl
  obtain ⟨m4, f4⟩ := hff 4 _ rfl
  simp [Try.cells23, Try.cells3] at f0 f1 f2 f3 f4
  obtain ⟨q, h0, w0⟩ := f0.int Try.underlying3
  obtain ⟨j, h1, w1⟩ := f1.int Try.underlying3
  obtain ⟨k, h2, w2⟩ := f2.int Try.underlying3
  obtain ⟨a, h3, w3⟩ := f3.int Try.underlying23
  obtain ⟨v, h4, w4⟩ := f4.int Try.underlying23
  simp at h0 h1 h2 h3 h4
  subst h0 h1 h2 h3 h4
  have ba := bounds_u32 w3
  exact ⟨q, j, k, a, v, rfl, ba.1, ba.2⟩
theorem Try.info23 : (Try.prog.info? 23).map (fun i => (i.zero, i.size, i.bytes)) = some (some (.int .u32 0), 1, 4) := by kernel_rfl
def resets (ks : List Kd) : List Value := ks.map fun k => .int .u32 k.r
theorem resets_snoc (ks : List Kd) (k : Kd) : resets (ks ++ [k]) = resets ks ++ [.int .u32 k.r] := by simp [resets]

set_option maxHeartbeats 2000000 in
set_option maxRecDepth 100000 in
theorem csrApart_walk (A : Option Addr) (len cap : Nat) (cs : Array Value) (w : World) {n n2 : Nat} (hf : Fits Try.prog w n 22 [.slice A len cap]) (hz : len * Try.prog.bytesOf 44 ≤ 140737488351232) (hf2 : Fits Try.prog w n2 25 cs.toList) :
    Calls Try.prog 3 #[.slice A len cap, .agg cs] w fun e w' => e = .returned (.bool true) ∧ Below w.heap.size w w' := by
  rw [Try.bytes44] at hz
  obtain ⟨ks, rfl, hk⟩ := open_kinds hf
  obtain ⟨q, j, kk, a, v, hcs, a0, a1⟩ := open_deed hf2
  obtain rfl := arr_of hcs
  obtain ⟨i0, hi, hz0, hz1, hz2⟩ := info_parts Try.info23
  replace hk := hide hk
  clear hf hf2 hcs
  go_enter Try.func3, Try.ntmps3
  go_wp2_with fail
  have B0 := Blk.new w #[.int .i64 q, .int .i64 j, .int .i64 kk, .int .u32 a, .int .u32 v] 25
  refine (shown_at _).mono ?_
  rintro e w1 ⟨rfl, k1⟩
  try clear cB0 fB0
  replace B0 := B0.turns k1 (by intro hh; first | exact False.elim hh | ((try simp only at hh); omega) | (simp at hh; omega))
  have cB0 := B0.cell; have fB0 := B0.frozen
  have K1 : Turns nobody w w1 := (by repeat' (first | exact Turns.refl _ _ | assumption | exact Or.inl rfl | exact Or.inr (Nat.le_refl _) | apply Turns.alloc | apply Turns.drew | apply Turns.drewN | apply Turns.setCell | (apply Or.inr; simp; done) | (apply Or.inr; simp; omega) | exact fun _ hh => False.elim hh | exact fun _ hh => Or.inl hh | (intro i hi; right; (try simp only at hi); omega) | (intro i hi; right; simp at hi; omega) | refine Turns.step ?_ (by assumption) ?_))
  go_wp2_with fail
  refine (real_law A cap ks _ (hk.out.still K1) hz).mono ?_
  rintro e w2 ⟨k2, A', c', rfl, hk2⟩
  have K2 : Turns nobody w w2 := K1.trans k2
  replace B0 := B0.turns k2 (by intro hh; first | exact False.elim hh | ((try simp only at hh); omega) | (simp at hh; omega))
  by_cases hlen : ks.length = 0 ∨ 64 < ks.length
  · clear hk2
    go_wp2_with fail
    refine (new_len A' ks.length c' _ hlen).mono ?_
    rintro e w3 ⟨rfl, k3⟩
    go_wp2_with fail
    go_returns
    exact ⟨rfl, Turns.none_below (by repeat' (first | exact Turns.refl _ _ | assumption | exact Or.inl rfl | exact Or.inr (Nat.le_refl _) | apply Turns.alloc | apply Turns.drew | apply Turns.drewN | apply Turns.setCell | (apply Or.inr; simp; done) | (apply Or.inr; simp; omega) | exact fun _ hh => False.elim hh | exact fun _ hh => Or.inl hh | (intro i hi; right; (try simp only at hi); omega) | (intro i hi; right; simp at hi; omega) | refine Turns.step ?_ (by assumption) ?_))⟩
  · replace hk2 := hide hk2
    go_wp2_with fail
    refine (new_law A' c' ks _ hk2.out (by omega) (by omega)).mono ?_
    rintro e w3 ⟨k3, ⟨rfl, _⟩ | ⟨_, b, g, o, c, rfl, F⟩⟩
    · go_wp2_with fail
      go_returns
      exact ⟨rfl, Turns.none_below (by repeat' (first | exact Turns.refl _ _ | assumption | exact Or.inl rfl | exact Or.inr (Nat.le_refl _) | apply Turns.alloc | apply Turns.drew | apply Turns.drewN | apply Turns.setCell | (apply Or.inr; simp; done) | (apply Or.inr; simp; omega) | exact fun _ hh => False.elim hh | exact fun _ hh => Or.inl hh | (intro i hi; right; (try simp only at hi); omega) | (intro i hi; right; simp at hi; omega) | refine Turns.step ?_ (by assumption) ?_))⟩
    · have hgl := F.bg
      have F : FAt w3 w.heap.size b g o c (ks.map regOf) := F.weaken K2.size
      have K3 : Turns nobody w w3 := K2.trans k3
      have l2 := B0.lt
      replace B0 := B0.turns k3 (by intro hh; first | exact False.elim hh | ((try simp only at hh); omega) | (simp at hh; omega))
      have q0 : QRow w3 w3.heap.size 23 1 (.slice none 0 0) 0 (resets (ks.take 0)) := q_of_own (World.ownsRow_nil _ _ _ _)
      clear hk2
      go_wp2_with fail
      go_loopw [8, 9] (fun s i wr => ∃ k : Nat, k ≤ ks.length ∧ i = .int .i64 k ∧ QRow wr w3.heap.size 23 1 s k (resets (ks.take k)) ∧ FAt wr w.heap.size b g o c (ks.map regOf) ∧ Blk wr w.heap.size #[.int .i64 q, .int .i64 j, .int .i64 kk, .int .u32 a, .int .u32 v] 25 ∧ Turns nobody w wr ∧ w3.heap.size ≤ wr.heap.size) (fun _ i _ => ks.length - (intOf i).toNat)
      case atStart => exact ⟨0, Nat.zero_le _, rfl, q0, F, B0, K3, Nat.le_refl _⟩
      case round =>
        have l3b := F.lt.1
        have l3g := F.lt.2
        have l3 := B0.lt
        clear F q0 K3 B0
        try clear cB0 fB0
        obtain ⟨k, hle, rfl, Q, F, B0, K, hsz⟩ := hrel
        by_cases hlt : k < ks.length
        · obtain ⟨x, hx⟩ : ∃ x, ks[k]? = some x := ⟨_, List.getElem?_eq_getElem hlt⟩
          have hr : (ks.map regOf)[k]? = some ⟨x.r, x.p, x.c, x.r⟩ := by simp [hx, regOf]
          go_wp2_with fail
          refine (get_at F k hr).mono ?_
          rintro e w4 ⟨rfl, k4⟩
          have K4 : Turns nobody w w4 := K.trans k4
          obtain ⟨A8, c8, rfl, hnc⟩ := q_slice Q
          have h64 : k < 64 := by omega
          go_wp2_with (at_builtin; refine wpList_q_append rfl (.tmp 36) (.tmp 40) 33 rfl w3.heap.size 23 i0 (.int .u32 0) 1 4 Try.underlying33 hi hz0 hz1 hz2 rfl (by decide) (.slice A8 k c8) k (resets (ks.take k)) rfl ?own ⟨w4.heap.size, 0, none⟩ 1 1 [.int .u32 x.r] rfl rfl ?news ?one (by decide) ?b1 ?b2 ?bb ?next)
          case own => exact qrow_turns Q (k4.alloc _) (fun _ _ hh => hh.elim)
          case news => exact fun j' u' hj => World.news_of_block (w := _) (fr := (0, 0)) (Blk.new w4 #[.int .u32 x.r] 23) j' u' (by simpa using hj)
          case one => intro u' hu; simp at hu; subst hu; rfl
          case b1 => unfold maxLen; omega
          case b2 => omega
          case bb => have := k4.size; simp; omega
          case next =>
            intro g' off cap1 w7 hq7 hg7 hat
            have T7 : Turns (fun i => (Value.slice A8 k c8).ownBlock = some i) wr w7 := Turns.step ((k4.alloc _).mono (fun _ _ hh => hh.elim)) (Turns.of_grown hg7) (fun i hi => .inl hi)
            have hown : ∀ i, (Value.slice A8 k c8).ownBlock = some i → w3.heap.size ≤ i := fun i hi => (q_typed Q i hi).1
            have K7 : Turns nobody w w7 := Turns.step K T7 (fun i hi => .inr (by have := hown i hi; omega))
            have F7 := F.turns T7 (fun hh => by have := hown _ hh; omega) (fun hh => by have := hown _ hh; omega)
            have B7 := B0.turns T7 (fun hh => by have := hown _ hh; omega)
            have s7 := T7.size
            go_wp2_with fail
            go_roundw
            case rel =>
              refine ⟨k + 1, by omega, by go_num, ?_, F7, B7, K7, by omega⟩
              rw [List.take_add_one, hx]
              simp only [Option.toList]
              rw [resets_snoc]
              exact hq7
            case measure => simp [intOf]; omega
        · obtain rfl : k = ks.length := by omega
          rw [List.take_length] at Q
          obtain ⟨A8, c8, rfl, hnc⟩ := q_slice Q
          have cB0 := B0.cell; have fB0 := B0.frozen
          have l4 := B0.lt
          obtain ⟨T, hT⟩ : ∃ T : Int, a / 4 = T := ⟨_, rfl⟩
          have hd : Int.tdiv a 4 = T := by rw [Int.tdiv_eq_ediv_of_nonneg a0]; exact hT
          have hw : IntKind.i64.wrap T = T := IntWalk.i64_in _ ⟨by omega, by omega⟩
          by_cases hq0 : q = 0
          · subst hq0
            go_wp2_with fail
            refine (write_apart F a v a0 a1).mono ?_
            rintro e w5 ⟨x5, rs, rfl, F5, hbut, k5⟩
            try clear cB0 fB0
            replace B0 := B0.turns k5 (by intro hh; first | exact False.elim hh | ((try simp only at hh); omega) | (simp at hh; omega))
            have cB0 := B0.cell; have fB0 := B0.frozen
            rw [hT] at hbut
            have Q5 : QRow w5 w3.heap.size 23 1 (.slice A8 ks.length c8) ks.length (resets ks) := qrow_turns Q k5 (fun g' hg' e => by have := (q_typed Q g' hg').1; have e : g' = g := e; omega)
            have K5 := fat_step F K k5 (fun _ h => h)
            clear Q F k5
            go_wp2_with fail
            clear cB0 fB0 B0
            go_loopw [11] (fun i wl => ∃ p : Nat, p ≤ ks.length ∧ i = .int .i64 p ∧ FAt wl w.heap.size b g o c rs ∧ QRow wl w3.heap.size 23 1 (.slice A8 ks.length c8) ks.length (resets ks) ∧ Turns nobody w wl) (fun i _ => ks.length - (intOf i).toNat)
            case atStart => exact ⟨0, Nat.zero_le _, rfl, F5, Q5, K5⟩
            case round =>
              clear F5 Q5 K5
              obtain ⟨p, hp, rfl, F, Q, K⟩ := hrel
              by_cases hlp : p < ks.length
              · obtain ⟨x, hx⟩ : ∃ x, ks[p]? = some x := ⟨_, List.getElem?_eq_getElem hlp⟩
                obtain ⟨g8, o8, cc, hv8, _, _, _, hc8⟩ := q_form Q (by omega)
                injection hv8 with hA8 _ hcc
                subst hA8 hcc
                have c7 := hc8 p (.int .u32 x.r) (by simp [resets, hx])
                have i0' : (0 : Int) ≤ (p : Int) := by omega
                have i1' : (p : Int) < (ks.length : Int) := by omega
                by_cases hat : (p : Int) = T
                · skip
                  subst hat
                  have F6 := hide F
                  have qx := fun (p : Later wr) => Later.cell c7 p
                  go_wp2_with fail
                  refine wp_region_later (by kernel_rfl) (by kernel_rfl) ?_
                  repeat (go_big_quiet_step (fail))
                  refine wpQuiet_nil ?_
                  rintro _ ⟨⟨wq, kq⟩, rfl⟩
                  go_wp2_with fail
                  go_roundw
                  case rel => exact ⟨p + 1, by omega, by go_num, F6.out.still kq, qrow_turns Q kq (fun _ _ hh => hh.elim), K.trans kq⟩
                  case measure => simp [intOf]; omega
                · have e10 : ((p : Int) != T) = true := bne_iff_ne.2 hat
                  have e9 : ((p : Int) == T) = false := beq_eq_false_iff_ne.2 hat
                  have hr : rs[p]? = some ⟨x.r, x.p, x.c, x.r⟩ := by rw [hbut.2 p hat]; simp [hx, regOf]
                  replace hat := hide hat
                  replace hr := hide hr
                  have F6 := hide F
                  obtain ⟨wr', hwr⟩ : ∃ wr', wr' = wr := ⟨_, rfl⟩
                  have qF := fun (p : Later wr) => F6.out.still p.h
                  have qx := fun (p : Later wr) => Later.cell c7 p
                  go_wp2_with fail
                  refine wp_region_later (by kernel_rfl) (by kernel_rfl) ?_
                  repeat (go_big_quiet_step ((go_at_call 12; exact Later.calls (get_at (qF _) p hr.out))))
                  refine wpQuiet_nil ?_
                  rintro _ ⟨⟨wq, kq⟩, rfl⟩
                  go_wp2_with fail
                  go_roundw
                  case rel => exact ⟨p + 1, by omega, by go_num, F6.out.still kq, qrow_turns Q kq (fun _ _ hh => hh.elim), K.trans kq⟩
                  case measure => simp [intOf]; omega
              · obtain rfl : p = ks.length := by omega
                go_wp2_with fail
                go_returns
                exact ⟨rfl, Turns.none_below K⟩
          · by_cases hq1 : q = 1
            · subst hq1
              go_wp2_with fail
              refine (read_any F a a0 a1).mono ?_
              rintro e w5 ⟨x5, y5, rfl, k50⟩
              have F5 := F.still k50
              have hbut : But (-1) (ks.map regOf) (ks.map regOf) := But.refl _ _
              have k5 : Turns (· = g) wr w5 := k50.mono (fun _ _ hh => hh.elim)
              replace B0 := B0.turns k5 (by intro hh; first | exact False.elim hh | ((try simp only at hh); omega) | (simp at hh; omega))
              clear cB0 fB0
              have cB0 := B0.cell; have fB0 := B0.frozen
              obtain ⟨rs, hrs⟩ : ∃ rs, rs = ks.map regOf := ⟨_, rfl⟩
              rw [← hrs] at F5
              have hbut : But (-1) (ks.map regOf) rs := by rw [hrs]; exact hbut
              clear hrs
              have Q5 : QRow w5 w3.heap.size 23 1 (.slice A8 ks.length c8) ks.length (resets ks) := qrow_turns Q k5 (fun g' hg' e => by have := (q_typed Q g' hg').1; have e : g' = g := e; omega)
              have K5 := fat_step F K k5 (fun _ h => h)
              clear Q F k5
              go_wp2_with fail
              clear cB0 fB0 B0
              go_loopw [11] (fun i wl => ∃ p : Nat, p ≤ ks.length ∧ i = .int .i64 p ∧ FAt wl w.heap.size b g o c rs ∧ QRow wl w3.heap.size 23 1 (.slice A8 ks.length c8) ks.length (resets ks) ∧ Turns nobody w wl) (fun i _ => ks.length - (intOf i).toNat)
              case atStart => exact ⟨0, Nat.zero_le _, rfl, F5, Q5, K5⟩
              case round =>
                clear F5 Q5 K5
                obtain ⟨p, hp, rfl, F, Q, K⟩ := hrel
                by_cases hlp : p < ks.length
                · obtain ⟨x, hx⟩ : ∃ x, ks[p]? = some x := ⟨_, List.getElem?_eq_getElem hlp⟩
                  obtain ⟨g8, o8, cc, hv8, _, _, _, hc8⟩ := q_form Q (by omega)
                  injection hv8 with hA8 _ hcc
                  subst hA8 hcc
                  have c7 := hc8 p (.int .u32 x.r) (by simp [resets, hx])
                  have i0' : (0 : Int) ≤ (p : Int) := by omega
                  have i1' : (p : Int) < (ks.length : Int) := by omega
                  by_cases hat : (p : Int) = (-1)
                  · skip
                    exfalso; omega
                  · have e10 : ((p : Int) != (-1)) = true := bne_iff_ne.2 hat
                    have e9 : ((p : Int) == (-1)) = false := beq_eq_false_iff_ne.2 hat
                    have hr : rs[p]? = some ⟨x.r, x.p, x.c, x.r⟩ := by rw [hbut.2 p hat]; simp [hx, regOf]
                    replace hat := hide hat
                    replace hr := hide hr
                    have F6 := hide F
                    obtain ⟨wr', hwr⟩ : ∃ wr', wr' = wr := ⟨_, rfl⟩
                    have qF := fun (p : Later wr) => F6.out.still p.h
                    have qx := fun (p : Later wr) => Later.cell c7 p
                    go_wp2_with fail
                    refine wp_region_later (by kernel_rfl) (by kernel_rfl) ?_
                    repeat (go_big_quiet_step ((go_at_call 12; exact Later.calls (get_at (qF _) p hr.out))))
                    refine wpQuiet_nil ?_
                    rintro _ ⟨⟨wq, kq⟩, rfl⟩
                    go_wp2_with fail
                    go_roundw
                    case rel => exact ⟨p + 1, by omega, by go_num, F6.out.still kq, qrow_turns Q kq (fun _ _ hh => hh.elim), K.trans kq⟩
                    case measure => simp [intOf]; omega
                · obtain rfl : p = ks.length := by omega
                  go_wp2_with fail
                  go_returns
                  exact ⟨rfl, Turns.none_below K⟩
            · have e0 : (q == 0) = false := beq_eq_false_iff_ne.2 hq0
              have e1 : (q == 1) = false := beq_eq_false_iff_ne.2 hq1
              by_cases hq2 : q = 2
              · subst hq2
                clear hq0 hq1 e0 e1
                go_wp2_with fail
                refine (set_apart F j v).mono ?_
                rintro e w5 ⟨x5, rs, rfl, F5, hbut, k5⟩
                try clear cB0 fB0
                replace B0 := B0.turns k5 (by intro hh; first | exact False.elim hh | ((try simp only at hh); omega) | (simp at hh; omega))
                have cB0 := B0.cell; have fB0 := B0.frozen
                have Q5 : QRow w5 w3.heap.size 23 1 (.slice A8 ks.length c8) ks.length (resets ks) := qrow_turns Q k5 (fun g' hg' e => by have := (q_typed Q g' hg').1; have e : g' = g := e; omega)
                have K5 := fat_step F K k5 (fun _ h => h)
                clear Q F k5
                go_wp2_with fail
                clear cB0 fB0 B0
                go_loopw [11] (fun i wl => ∃ p : Nat, p ≤ ks.length ∧ i = .int .i64 p ∧ FAt wl w.heap.size b g o c rs ∧ QRow wl w3.heap.size 23 1 (.slice A8 ks.length c8) ks.length (resets ks) ∧ Turns nobody w wl) (fun i _ => ks.length - (intOf i).toNat)
                case atStart => exact ⟨0, Nat.zero_le _, rfl, F5, Q5, K5⟩
                case round =>
                  clear F5 Q5 K5
                  obtain ⟨p, hp, rfl, F, Q, K⟩ := hrel
                  by_cases hlp : p < ks.length
                  · obtain ⟨x, hx⟩ : ∃ x, ks[p]? = some x := ⟨_, List.getElem?_eq_getElem hlp⟩
                    obtain ⟨g8, o8, cc, hv8, _, _, _, hc8⟩ := q_form Q (by omega)
                    injection hv8 with hA8 _ hcc
                    subst hA8 hcc
                    have c7 := hc8 p (.int .u32 x.r) (by simp [resets, hx])
                    have i0' : (0 : Int) ≤ (p : Int) := by omega
                    have i1' : (p : Int) < (ks.length : Int) := by omega
                    by_cases hat : (p : Int) = j
                    · skip
                      subst hat
                      have F6 := hide F
                      have qx := fun (p : Later wr) => Later.cell c7 p
                      go_wp2_with fail
                      refine wp_region_later (by kernel_rfl) (by kernel_rfl) ?_
                      repeat (go_big_quiet_step (fail))
                      refine wpQuiet_nil ?_
                      rintro _ ⟨⟨wq, kq⟩, rfl⟩
                      go_wp2_with fail
                      go_roundw
                      case rel => exact ⟨p + 1, by omega, by go_num, F6.out.still kq, qrow_turns Q kq (fun _ _ hh => hh.elim), K.trans kq⟩
                      case measure => simp [intOf]; omega
                    · have e10 : ((p : Int) != j) = true := bne_iff_ne.2 hat
                      have e9 : ((p : Int) == j) = false := beq_eq_false_iff_ne.2 hat
                      have hr : rs[p]? = some ⟨x.r, x.p, x.c, x.r⟩ := by rw [hbut.2 p hat]; simp [hx, regOf]
                      replace hat := hide hat
                      replace hr := hide hr
                      have F6 := hide F
                      obtain ⟨wr', hwr⟩ : ∃ wr', wr' = wr := ⟨_, rfl⟩
                      have qF := fun (p : Later wr) => F6.out.still p.h
                      have qx := fun (p : Later wr) => Later.cell c7 p
                      go_wp2_with fail
                      refine wp_region_later (by kernel_rfl) (by kernel_rfl) ?_
                      repeat (go_big_quiet_step ((go_at_call 12; exact Later.calls (get_at (qF _) p hr.out))))
                      refine wpQuiet_nil ?_
                      rintro _ ⟨⟨wq, kq⟩, rfl⟩
                      go_wp2_with fail
                      go_roundw
                      case rel => exact ⟨p + 1, by omega, by go_num, F6.out.still kq, qrow_turns Q kq (fun _ _ hh => hh.elim), K.trans kq⟩
                      case measure => simp [intOf]; omega
                  · obtain rfl : p = ks.length := by omega
                    go_wp2_with fail
                    go_returns
                    exact ⟨rfl, Turns.none_below K⟩
              · have e2 : (q == 2) = false := beq_eq_false_iff_ne.2 hq2
                clear hq0 hq1 hq2
                go_wp2_with fail
                refine (raise_apart F j v).mono ?_
                rintro e w5 ⟨x5, rs, rfl, F5, hbut, k5⟩
                try clear cB0 fB0
                replace B0 := B0.turns k5 (by intro hh; first | exact False.elim hh | ((try simp only at hh); omega) | (simp at hh; omega))
                have cB0 := B0.cell; have fB0 := B0.frozen
                have Q5 : QRow w5 w3.heap.size 23 1 (.slice A8 ks.length c8) ks.length (resets ks) := qrow_turns Q k5 (fun g' hg' e => by have := (q_typed Q g' hg').1; have e : g' = g := e; omega)
                have K5 := fat_step F K k5 (fun _ h => h)
                clear Q F k5
                go_wp2_with fail
                clear cB0 fB0 B0
                go_loopw [11] (fun i wl => ∃ p : Nat, p ≤ ks.length ∧ i = .int .i64 p ∧ FAt wl w.heap.size b g o c rs ∧ QRow wl w3.heap.size 23 1 (.slice A8 ks.length c8) ks.length (resets ks) ∧ Turns nobody w wl) (fun i _ => ks.length - (intOf i).toNat)
                case atStart => exact ⟨0, Nat.zero_le _, rfl, F5, Q5, K5⟩
                case round =>
                  clear F5 Q5 K5
                  obtain ⟨p, hp, rfl, F, Q, K⟩ := hrel
                  by_cases hlp : p < ks.length
                  · obtain ⟨x, hx⟩ : ∃ x, ks[p]? = some x := ⟨_, List.getElem?_eq_getElem hlp⟩
                    obtain ⟨g8, o8, cc, hv8, _, _, _, hc8⟩ := q_form Q (by omega)
                    injection hv8 with hA8 _ hcc
                    subst hA8 hcc
                    have c7 := hc8 p (.int .u32 x.r) (by simp [resets, hx])
                    have i0' : (0 : Int) ≤ (p : Int) := by omega
                    have i1' : (p : Int) < (ks.length : Int) := by omega
                    by_cases hat : (p : Int) = j
                    · skip
                      subst hat
                      have F6 := hide F
                      have qx := fun (p : Later wr) => Later.cell c7 p
                      go_wp2_with fail
                      refine wp_region_later (by kernel_rfl) (by kernel_rfl) ?_
                      repeat (go_big_quiet_step (fail))
                      refine wpQuiet_nil ?_
                      rintro _ ⟨⟨wq, kq⟩, rfl⟩
                      go_wp2_with fail
                      go_roundw
                      case rel => exact ⟨p + 1, by omega, by go_num, F6.out.still kq, qrow_turns Q kq (fun _ _ hh => hh.elim), K.trans kq⟩
                      case measure => simp [intOf]; omega
                    · have e10 : ((p : Int) != j) = true := bne_iff_ne.2 hat
                      have e9 : ((p : Int) == j) = false := beq_eq_false_iff_ne.2 hat
                      have hr : rs[p]? = some ⟨x.r, x.p, x.c, x.r⟩ := by rw [hbut.2 p hat]; simp [hx, regOf]
                      replace hat := hide hat
                      replace hr := hide hr
                      have F6 := hide F
                      obtain ⟨wr', hwr⟩ : ∃ wr', wr' = wr := ⟨_, rfl⟩
                      have qF := fun (p : Later wr) => F6.out.still p.h
                      have qx := fun (p : Later wr) => Later.cell c7 p
                      go_wp2_with fail
                      refine wp_region_later (by kernel_rfl) (by kernel_rfl) ?_
                      repeat (go_big_quiet_step ((go_at_call 12; exact Later.calls (get_at (qF _) p hr.out))))
                      refine wpQuiet_nil ?_
                      rintro _ ⟨⟨wq, kq⟩, rfl⟩
                      go_wp2_with fail
                      go_roundw
                      case rel => exact ⟨p + 1, by omega, by go_num, F6.out.still kq, qrow_turns Q kq (fun _ _ hh => hh.elim), K.trans kq⟩
                      case measure => simp [intOf]; omega
                  · obtain rfl : p = ks.length := by omega
                    go_wp2_with fail
                    go_returns
                    exact ⟨rfl, Turns.none_below K⟩

end Go.Proofs.Ytdhifcjfkbidoaa
