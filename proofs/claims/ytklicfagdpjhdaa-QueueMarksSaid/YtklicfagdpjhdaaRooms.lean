/- What is done with a queue that was made behind a world; the walk of the law 'QueueRooms'. -/
import Derived.Test.YtklicfagdpjhdaaLaws
set_option linter.unusedVariables false
namespace Go.Proofs.Ytklicfagdpjhdaa
open Go.RowKit Go.Proofs.YtklicfagdpjhdaaW.PrintWords

/-- The queue at b, made behind w0. -/
structure QW (w0 w : World) (b : Nat) (room low high : Int) (above : Bool) (fs : List Fr) : Prop where
  q : ∃ v, QAt w w0.heap.size w0.heap.size b v room low high above fs
  k : Turns nobody w0 w

theorem QW.still {w0 w w' : World} {b : Nat} {room low high : Int} {above : Bool} {fs : List Fr} (h : QW w0 w b room low high above fs) (k : Turns nobody w w') : QW w0 w' b room low high above fs := by
  obtain ⟨⟨v, q⟩, k0⟩ := h
  exact ⟨⟨v, q.still k⟩, k0.trans k⟩
theorem QW.lt {w0 w : World} {b : Nat} {room low high : Int} {above : Bool} {fs : List Fr} (h : QW w0 w b room low high above fs) : b < w.heap.size := by
  obtain ⟨⟨v, q⟩, _⟩ := h
  exact q.blk.lt
theorem QW.fits {w0 w : World} {b : Nat} {room low high : Int} {above : Bool} {fs : List Fr} (h : QW w0 w b room low high above fs) : total fs ≤ room ∧ room ≤ 65536 ∧ (fs.length : Int) ≤ total fs ∧ 0 ≤ total fs := by
  obtain ⟨⟨v, q⟩, _⟩ := h
  exact ⟨q.fits, q.most, total_len fs q.pos, total_nonneg fs⟩

theorem qw_new {w0 w : World} (k : Turns nobody w0 w) (room low high : Int) (h0 : 0 ≤ low) (h1 : low ≤ high) (h2 : high ≤ room) (h3 : room ≤ 65536) :
    Calls Try.prog 10 #[.int .i64 room, .int .i64 low, .int .i64 high] w fun e w' => e = .returned (.tuple #[.pointer (some ⟨w.heap.size, 0, none⟩), .int .i64 0]) ∧ QW w0 w' w.heap.size room low high false [] := by
  refine (new_ok room low high w w0.heap.size w0.heap.size k.size h0 h1 h2 h3).mono ?_
  rintro e w' ⟨he, h, k2⟩
  exact ⟨he, ⟨_, h⟩, k.trans k2⟩
theorem qw_raw {w0 w : World} {b : Nat} {room low high : Int} {above : Bool} {fs : List Fr} (h : QW w0 w b room low high above fs) (n : Nat) (hn : n ≤ 65536) :
    Calls Try.prog 13 #[.int .i64 n] w fun e w' => ∃ g, e = .returned (.agg #[.slice (some ⟨g, 0, none⟩) n n, .int .u64 0, .int .u32 0, .int .u32 0]) ∧
      (∀ j u, (byteCells (zeros n))[j]? = some u → w'.cell? ((⟨g, 0, none⟩ : Addr).add j) = some u) ∧ QW w0 w' b room low high above fs ∧ Turns nobody w w' := by
  refine (raw_at n hn w).mono ?_
  rintro e w' ⟨g, he, hc, k⟩
  exact ⟨g, he, hc, h.still k, k⟩
theorem qw_put0 {w0 w : World} {b : Nat} {room low high : Int} {above : Bool} {fs : List Fr} (h : QW w0 w b room low high above fs) (A : Option Addr) (cap : Nat) (s n u : Int) :
    Calls Try.prog 11 #[.pointer (some ⟨b, 0, none⟩), .agg #[.slice A 0 cap, .int .u64 s, .int .u32 n, .int .u32 u]] w fun e w' => e = .returned (.int .i64 1) ∧ QW w0 w' b room low high above fs := by
  refine (put_arg _ A cap s n u w).mono ?_
  rintro e w' ⟨he, k⟩
  exact ⟨he, h.still k⟩
theorem qw_full {w0 w : World} {b : Nat} {room low high : Int} {above : Bool} {fs : List Fr} (h : QW w0 w b room low high above fs) (A : Option Addr) (len cap : Nat) (s n u : Int) (h0 : 0 < len) (hl : len ≤ 9223372036854775807) (h1 : room < total fs + len) :
    Calls Try.prog 11 #[.pointer (some ⟨b, 0, none⟩), .agg #[.slice A len cap, .int .u64 s, .int .u32 n, .int .u32 u]] w fun e w' => e = .returned (.int .i64 3) ∧ QW w0 w' b room low high above fs := by
  obtain ⟨⟨v, q⟩, k0⟩ := h
  refine (put_full q A len cap s n u h0 hl h1).mono ?_
  rintro e w' ⟨he, k⟩
  exact ⟨he, ⟨v, q.still k⟩, k0.trans k⟩
theorem qw_put {w0 w : World} {b : Nat} {room low high : Int} {above : Bool} {fs : List Fr} (h : QW w0 w b room low high above fs)
    (A : Addr) (cap : Nat) (f : Fr) (h0 : 0 < f.bs.length) (h1 : total fs + f.bs.length ≤ room) (hc : ∀ j u, (byteCells f.bs)[j]? = some u → w.cell? (A.add j) = some u) :
    Calls Try.prog 11 #[.pointer (some ⟨b, 0, none⟩), .agg #[.slice (some A) f.bs.length cap, .int .u64 f.s, .int .u32 f.n, .int .u32 f.u]] w fun e w' => e = .returned (.int .i64 0) ∧ QW w0 w' b room low high above (fs ++ [f]) := by
  obtain ⟨⟨v, q⟩, k0⟩ := h
  refine (put_ok q k0.size k0.size A cap f h0 h1 hc).mono ?_
  rintro e w' ⟨he, ⟨v', q', _⟩, k⟩
  exact ⟨he, ⟨v', q'⟩, q.step k0 k (fun _ hi => hi)⟩
theorem qw_putz {w0 w : World} {b : Nat} {room low high : Int} {above : Bool} {fs : List Fr} (h : QW w0 w b room low high above fs)
    (A : Addr) (n cap : Nat) (h0 : 0 < n) (h1 : total fs + n ≤ room) (hc : ∀ j u, (byteCells (zeros n))[j]? = some u → w.cell? (A.add j) = some u) :
    Calls Try.prog 11 #[.pointer (some ⟨b, 0, none⟩), .agg #[.slice (some A) n cap, .int .u64 0, .int .u32 0, .int .u32 0]] w fun e w' => e = .returned (.int .i64 0) ∧ QW w0 w' b room low high above (fs ++ [zf n]) := by
  obtain ⟨⟨v, q⟩, k0⟩ := h
  refine (put_raw q k0.size k0.size A n cap h0 h1 hc).mono ?_
  rintro e w' ⟨he, ⟨v', q', _⟩, k⟩
  exact ⟨he, ⟨v', q'⟩, q.step k0 k (fun _ hi => hi)⟩
theorem qw_take0 {w0 w : World} {b : Nat} {room low high : Int} {above : Bool} (h : QW w0 w b room low high above []) :
    Calls Try.prog 12 #[.pointer (some ⟨b, 0, none⟩)] w fun e w' => e = .returned (.tuple #[.agg #[.slice none 0 0, .int .u64 0, .int .u32 0, .int .u32 0], .int .i64 6]) ∧ QW w0 w' b room low high above [] := by
  obtain ⟨⟨v, q⟩, k0⟩ := h
  refine (take_none q).mono ?_
  rintro e w' ⟨he, k⟩
  exact ⟨he, ⟨v, q.still k⟩, k0.trans k⟩
theorem qw_take {w0 w : World} {b : Nat} {room low high : Int} {above : Bool} {f : Fr} {fs : List Fr} (h : QW w0 w b room low high above (f :: fs)) :
    Calls Try.prog 12 #[.pointer (some ⟨b, 0, none⟩)] w fun e w' => ∃ X k, e = .returned (.tuple #[.agg #[.slice X f.bs.length k, .int .u64 f.s, .int .u32 f.n, .int .u32 f.u], .int .i64 0]) ∧
      ReadsB w' X f.bs ∧ QW w0 w' b room low high above fs := by
  obtain ⟨⟨v, q⟩, k0⟩ := h
  refine (take_some q).mono ?_
  rintro e w' ⟨X, k, he, r, ⟨v', q', _⟩, k2⟩
  exact ⟨X, k, he, ReadsB.of_row r, ⟨v', q'⟩, q.step k0 k2 (fun _ hi => .inl hi)⟩
theorem qw_takes {w0 w : World} {b : Nat} {room low high : Int} {above : Bool} {fs : List Fr} (h : QW w0 w b room low high above fs) :
    Calls Try.prog 12 #[.pointer (some ⟨b, 0, none⟩)] w fun e w' => ∃ v fs', e = .returned v ∧ QW w0 w' b room low high above fs' := by
  cases fs with
  | nil => exact (qw_take0 h).mono (by rintro e w' ⟨he, q⟩; exact ⟨_, _, he, q⟩)
  | cons f fs => exact (qw_take h).mono (by rintro e w' ⟨X, k, he, _, q⟩; exact ⟨_, _, he, q⟩)
theorem qw_mark {w0 w : World} {b : Nat} {room low high : Int} {above : Bool} {fs : List Fr} (h : QW w0 w b room low high above fs) (hh : 0 ≤ high) :
    Calls Try.prog 14 #[.pointer (some ⟨b, 0, none⟩)] w fun e w' => (e = .returned (.int .i64 0) ∧ QW w0 w' b room low high above fs ∧ (0 < high → (above = false → total fs < high) ∧ (above = true → low < total fs))) ∨
      (0 < high ∧ e = .returned (.int .i64 1) ∧ QW w0 w' b room low high true fs ∧ above = false ∧ high ≤ total fs) ∨
      (0 < high ∧ e = .returned (.int .i64 2) ∧ QW w0 w' b room low high false fs ∧ above = true ∧ total fs ≤ low) := by
  obtain ⟨⟨v, q⟩, k0⟩ := h
  have go : ∀ w' : World, ∀ ab, QAt w' w0.heap.size w0.heap.size b v room low high ab fs → Turns (· = b) w w' → QW w0 w' b room low high ab fs := fun w' ab q' k => ⟨⟨v, q'⟩, q.step k0 k (fun _ hi => .inl hi)⟩
  by_cases h0 : 0 < high
  · cases above
    · by_cases h1 : high ≤ total fs
      · exact (mark_high q h1 h0).mono (by rintro e w' ⟨he, q', k⟩; exact .inr (.inl ⟨h0, he, go _ _ q' k, rfl, h1⟩))
      · exact (mark_none q (.inr (.inl ⟨h0, rfl, by omega⟩))).mono (by rintro e w' ⟨he, k⟩; exact .inl ⟨he, ⟨⟨v, q.still k⟩, k0.trans k⟩, fun _ => ⟨fun _ => by omega, by simp⟩⟩)
    · by_cases h1 : total fs ≤ low
      · exact (mark_low q h1 h0).mono (by rintro e w' ⟨he, q', k⟩; exact .inr (.inr ⟨h0, he, go _ _ q' k, rfl, h1⟩))
      · exact (mark_none q (.inr (.inr ⟨h0, rfl, by omega⟩))).mono (by rintro e w' ⟨he, k⟩; exact .inl ⟨he, ⟨⟨v, q.still k⟩, k0.trans k⟩, fun _ => ⟨by simp, fun _ => by omega⟩⟩)
  · by_cases h1 : high = 0
    · exact (mark_none q (.inl h1)).mono (by rintro e w' ⟨he, k⟩; exact .inl ⟨he, ⟨⟨v, q.still k⟩, k0.trans k⟩, fun h => (h0 h).elim⟩)
    · omega
theorem qw_bytes {w0 w : World} {b : Nat} {room low high : Int} {above : Bool} {fs : List Fr} (h : QW w0 w b room low high above fs) :
    Calls Try.prog 15 #[.pointer (some ⟨b, 0, none⟩)] w fun e w' => e = .returned (.int .i64 (total fs)) ∧ QW w0 w' b room low high above fs := by
  obtain ⟨⟨v, q⟩, k0⟩ := h
  refine (bytes_at q).mono ?_
  rintro e w' ⟨he, k⟩
  exact ⟨he, ⟨v, q.still k⟩, k0.trans k⟩
theorem qw_len {w0 w : World} {b : Nat} {room low high : Int} {above : Bool} {fs : List Fr} (h : QW w0 w b room low high above fs) :
    Calls Try.prog 16 #[.pointer (some ⟨b, 0, none⟩)] w fun e w' => e = .returned (.int .i64 fs.length) ∧ QW w0 w' b room low high above fs := by
  obtain ⟨⟨v, q⟩, k0⟩ := h
  refine (len_at q).mono ?_
  rintro e w' ⟨he, k⟩
  exact ⟨he, ⟨v, q.still k⟩, k0.trans k⟩

set_option maxHeartbeats 1000000 in
set_option maxRecDepth 100000 in
theorem queueRooms_walk (room : Int) (A : Option Addr) (len cap : Nat) (w : World) {n : Nat} (wr : (Lit.int .u16 room).wf = true) (hf : Fits Try.prog w n 22 [.slice A len cap]) :
    Calls Try.prog 5 #[.int .u16 room, .slice A len cap] w fun e w' => e = .returned (.bool true) ∧ Below w.heap.size w w' := by
  obtain ⟨bs, rfl, hr, hbs, hl, hm⟩ := open_bytes hf Try.underlying22 Try.underlying5 Try.cells5
  have br := bounds_u16 wr
  unfold maxLen at hm
  clear hf wr
  have hw0 : IntKind.i64.wrap room = room := IntWalk.i64_in _ ⟨by omega, by omega⟩
  replace hr := hide hr
  have hbs' := hide hbs
  clear hbs
  go_enter Try.func5, Try.ntmps5
  go_wp2_with fail
  refine (shown_at _).mono ?_
  rintro e w1 ⟨rfl, k1⟩
  go_wp2_with fail
  refine (qw_new k1 room 0 0 (by omega) (by omega) (by omega) (by omega)).mono ?_
  rintro e w2 ⟨rfl, Q0⟩
  go_wp2_with fail
  go_loopw [8, 9] (fun s i wr => ∃ (k : Nat) (fs : List Fr), k ≤ bs.length ∧ i = .int .i64 k ∧ s = .int .i64 (total fs) ∧ QW w wr w1.heap.size room 0 0 false fs) (fun _ i _ => bs.length - (intOf i).toNat)
  case atStart => exact ⟨0, [], Nat.zero_le _, rfl, rfl, Q0⟩
  case round =>
    clear Q0
    obtain ⟨k, fs, hk, rfl, rfl, Q⟩ := hrel
    obtain ⟨f0, f1, f2, f3⟩ := Q.fits
    have f2 := hide f2
    by_cases hlt : k < bs.length
    · by_cases hlt2 : k < 200
      · obtain ⟨b, o, rfl, hb, hc⟩ := hr.out.cells (by omega)
        have hck := hc k hlt
        have hcw : wr.cell? ⟨b, o + k, none⟩ = some (.int .u8 (bs.getD k 0)) := (Q.k.none_below.cell hb).trans hck
        obtain ⟨m, hm1, hm2⟩ : ∃ m : Nat, bs.getD k 0 = (m : Int) ∧ m ≤ 255 := by
          have := hbs'.out (bs.getD k 0) (by simp [List.getD, hlt])
          exact ⟨(bs.getD k 0).toNat, by omega, by omega⟩
        rw [hm1] at hcw
        clear hc hck hm1
        have i0 : (0 : Int) ≤ (k : Int) := by omega
        have i1 : (k : Int) < (bs.length : Int) := by omega
        go_wp2_with fail
        refine (qw_raw Q m (by omega)).mono ?_
        rintro e w4 ⟨g, rfl, hz, Q1, k4⟩
        rcases Nat.eq_zero_or_pos m with rfl | hp
        · skip
          go_wp2_with fail
          refine (qw_put0 Q1 _ _ _ _ _).mono ?_
          rintro e w5 ⟨rfl, Q2⟩
          go_wp2_with fail
          go_roundw
          case rel => exact ⟨k + 1, fs, by omega, by go_num, rfl, Q2⟩
          case measure => simp [intOf]; omega
        · by_cases hfit : total fs + m ≤ room
          · replace hz := hide hz
            go_wp2_with fail
            refine (qw_putz Q1 _ m _ hp hfit hz.out).mono ?_
            rintro e w5 ⟨rfl, Q2⟩
            clear hz
            have e1 : (m : Int) > 0 := by omega
            go_wp2_with fail
            go_roundw
            case rel => exact ⟨k + 1, fs ++ [zf m], by omega, by go_num, by rw [total_snoc_zf], Q2⟩
            case measure => simp [intOf]; omega
          · skip
            go_wp2_with fail
            refine (qw_full Q1 _ m _ _ _ _ hp (by omega) (by omega)).mono ?_
            rintro e w5 ⟨rfl, Q2⟩
            have e2 : ¬ m = 0 := by omega
            go_wp2_with fail
            go_roundw
            case rel => exact ⟨k + 1, fs, by omega, by go_num, rfl, Q2⟩
            case measure => simp [intOf]; omega
      · skip
        go_wp2_with fail
        refine (qw_bytes Q).mono ?_
        rintro e w4 ⟨rfl, Q1⟩
        go_wp2_with fail
        go_returns
        exact ⟨rfl, Q1.k.none_below⟩
    · skip
      go_wp2_with fail
      refine (qw_bytes Q).mono ?_
      rintro e w4 ⟨rfl, Q1⟩
      go_wp2_with fail
      go_returns
      exact ⟨rfl, Q1.k.none_below⟩

end Go.Proofs.Ytklicfagdpjhdaa
