/- An event's frame; the example at the head of the events' laws; the walk of 'EventNobody'. -/
import Derived.Test.YtbiplmlkgbicnaaKind
import Derived.Laws.Cover3
set_option linter.unusedVariables false
namespace Go.Proofs.Ytbiplmlkgbicnaa
open Go.RowKit Go.Proofs.YtbiplmlkgbicnaaW.PrintWords

theorem make44 {cs : Array Value} (hcs : madeCells #[.int .u8 0] 44 = cs) : ∀ W : World, (Instr.makeSlice 22 (.int .i64 44) (.int .i64 44)).run Try.prog W = .ok (.slice (some ⟨W.heap.size, 0, none⟩) 44 44) (W.alloc (.cells cs 5)) := by
  intro W
  subst hcs
  obtain ⟨i0, hi, hz0, hz1, hz2⟩ := info_parts Try.info5
  have h := run_make (P := Try.prog) W 22 5 i0 (.int .u8 0) Try.underlying22 hi hz0 .i64 .i64 44 44 (by omega) (Int.le_refl _) (by rw [hz2]; omega) (by omega)
  rw [hz1] at h
  simpa [Value.cells] using h
theorem made_list (n : Nat) : (madeCells #[.int .u8 0] n).toList = List.replicate n (.int .u8 0) := by
  apply List.ext_getElem
  · simp [madeCells]
  · intro i h1 h2
    simp [madeCells, Nat.mod_one]
theorem rd_ev {cs : Array Value} (hcs : madeCells #[.int .u8 0] 44 = cs) (W : World) {g : Nat} (hg : W.heap.size = g) (kind seq : Int) :
    ReadsB (W.alloc (.cells ((((cs.setIfInBounds 0 (.int .u8 kind)).setIfInBounds 1 (.int .u8 2)).setIfInBounds 30 (.int .u8 (seq / 256))).setIfInBounds 31 (.int .u8 (seq % 256))) 5)) (some ⟨g, 0, none⟩) (evD kind seq) := by
  subst hg
  refine .inr ⟨_, _, rfl, fun j u hj => ?_⟩
  rw [Nat.zero_add, (Blk.new W _ 5).cell j]
  have e : ((((cs.setIfInBounds 0 (.int .u8 kind)).setIfInBounds 1 (.int .u8 2)).setIfInBounds 30 (.int .u8 (seq / 256))).setIfInBounds 31 (.int .u8 (seq % 256))).toList = byteCells (evD kind seq) := by
    simp only [Array.toList_setIfInBounds]
    rw [← hcs, made_list]
    rfl
  rw [← Array.getElem?_toList, e]
  exact hj

set_option maxHeartbeats 2000000 in
set_option maxRecDepth 100000 in
theorem sync_law (kind seq tag : Int) (src : Ad) (w : World) (hk : 0 ≤ kind ∧ kind ≤ 255) (hs : 0 ≤ seq ∧ seq ≤ 65535) (h0 : -1 ≤ tag) (h1 : tag ≤ 65535) {bs : List Int} (eb : built (evF kind seq tag src) = bs) :
    Calls Try.prog 25 #[.int .u8 kind, .int .u16 seq, .int .i64 tag, .agg #[.int .u8 src.a0, .int .u8 src.a1, .int .u8 src.a2, .int .u8 src.a3, .int .u8 src.a4, .int .u8 src.a5]] w fun e w' => ∃ X k, e = .returned (.slice X bs.length k) ∧ OwnB w' w.heap.size (.slice X bs.length k) bs ∧ Turns nobody w w' := by
  obtain ⟨cs, hcs⟩ : ∃ cs, madeCells #[.int .u8 0] 44 = cs := ⟨_, rfl⟩
  have B0 := Blk.new w #[.int .u8 src.a0, .int .u8 src.a1, .int .u8 src.a2, .int .u8 src.a3, .int .u8 src.a4, .int .u8 src.a5] 27
  have z44 : cs.size = 44 := by rw [← hcs]; simp [madeCells]
  have hmk := make44 hcs
  have hw1 : IntKind.u8.wrap (seq / 256) = seq / 256 := by rw [IntKind.wrap_u8']; omega
  have hw2 : IntKind.u8.wrap seq = seq % 256 := by rw [IntKind.wrap_u8']
  obtain ⟨hs0, hs1⟩ := hs
  have kB := evF_bad kind seq src h0 h1
  have rE := hide (rd_ev hcs (w.alloc (.cells #[.int .u8 src.a0, .int .u8 src.a1, .int .u8 src.a2, .int .u8 src.a3, .int .u8 src.a4, .int .u8 src.a5] 27)) (g := w.heap.size + 1) (by simp) kind seq)
  replace eb := hide eb
  replace kB := hide kB
  clear hcs
  go_enter Try.func25, Try.ntmps25
  go_wp2_with fail
  refine (build_as (evF kind seq tag src) _ 44 _ kB.out rE.out eb.out).mono ?_
  rintro e w1 ⟨X, k, rfl, o1, k1⟩
  have n1 := k1.size
  go_wp2_with fail
  go_returns
  refine ⟨X, k, rfl, o1.lower (by simp; omega), ?_⟩
  have kS : Turns nobody w ((w.alloc (.cells #[.int .u8 src.a0, .int .u8 src.a1, .int .u8 src.a2, .int .u8 src.a3, .int .u8 src.a4, .int .u8 src.a5] 27)).alloc (.cells ((((cs.setIfInBounds 0 (.int .u8 kind)).setIfInBounds 1 (.int .u8 2)).setIfInBounds 30 (.int .u8 (seq / 256))).setIfInBounds 31 (.int .u8 (seq % 256))) 5)) := (by repeat' (first | exact Turns.refl _ _ | assumption | exact Or.inl rfl | exact Or.inr (Nat.le_refl _) | apply Turns.alloc | apply Turns.drew | apply Turns.drewN | apply Turns.setCell | (apply Or.inr; simp; done) | (apply Or.inr; simp; omega) | exact fun _ hh => False.elim hh | exact fun _ hh => Or.inl hh | (intro i hi; right; (try simp only at hi); omega) | (intro i hi; right; simp at hi; omega) | refine Turns.step ?_ (by assumption) ?_))
  exact kS.trans k1

def zAd : Ad := ⟨0, 0, 0, 0, 0, 0⟩
theorem zAd_bytes : Bytes zAd.list := by simp [Bytes, zAd, Ad.list]
set_option maxHeartbeats 2000000 in
theorem eshown_at (w : World) : Calls Try.prog 22 #[] w fun e w' => e = .returned (.bool true) ∧ Turns nobody w w' := by
  obtain ⟨bs, eb⟩ : ∃ bs, built (evF 0 7 (-1) zAd) = bs := ⟨_, rfl⟩
  obtain ⟨p1, p2, p3, p4, p5, p6, p7, p8⟩ := ev_read (kind := 0) (seq := 7) (tag := -1) (src := zAd) (by decide) (by decide) (by decide) (by decide) (by decide) zAd_bytes eb
  obtain ⟨f, ef⟩ : ∃ f, normF (evF 0 7 (-1) zAd) = f := ⟨_, rfl⟩
  rw [ef] at p2 p5 p6 p7 p8
  have K := fun X k w hr hc hm => kind_yes X k bs w hr p3 hc hm p1 p2 p6 p5
  rw [p7, p8] at K
  have S := fun w => sync_law 0 7 (-1) zAd w (by decide) (by decide) (by decide) (by decide) eb
  clear p1 p2 p3 p4 p5 p6 p7 p8 ef eb
  replace K := hide K
  replace S := hide S
  go_enter Try.func22, Try.ntmps22
  go_wp2_with fail
  refine (S.out _).mono ?_
  rintro e w1 ⟨X, k, rfl, o1, k1⟩
  obtain ⟨x1, x2⟩ := o1.caps
  go_wp2_with fail
  refine (K.out X k _ o1.reads x1 x2).mono ?_
  rintro e w2 ⟨rfl, k2⟩
  go_wp2_with fail
  go_returns
  exact ⟨rfl, k1.trans k2⟩

theorem Try.info77 : (Try.prog.info? 77).map (·.size) = some 11 := by kernel_rfl
set_option maxHeartbeats 1000000 in
theorem take0 (w : World) : Calls Try.prog 47 #[.pointer none] w fun e w' => e = .returned (.tuple #[.agg #[.int .i64 0, .int .i64 0, .int .u8 0, .int .u8 0, .int .u8 0, .int .u8 0, .int .u8 0, .int .u8 0, .int .u64 0, .int .u32 0, .int .u32 0], .int .i64 6]) ∧ Turns nobody w w' := by
  go_enter Try.func47, Try.ntmps47
  go_wp2_with fail
  refine (len0 _).mono ?_
  rintro e w1 ⟨rfl, k1⟩
  have B1 := (Blk.new w #[.int .i64 0, .int .i64 0, .int .u8 0, .int .u8 0, .int .u8 0, .int .u8 0, .int .u8 0, .int .u8 0, .int .u64 0, .int .u32 0, .int .u32 0] 77).turns k1 (by intro hh; first | exact False.elim hh | ((try simp only at hh); omega) | (simp at hh; omega))
  go_wp2_with (refine wpList_store_whole rfl 77 (.tmp 2) (.tmp 8) (by rfl) w.heap.size _ #[.int .i64 0, .int .i64 0, .int .u8 0, .int .u8 0, .int .u8 0, .int .u8 0, .int .u8 0, .int .u8 0, .int .u64 0, .int .u32 0, .int .u32 0] 77 (by rfl) (by rfl) B1 rfl Try.info77 (by simp [Value.oneCell']) ?_; intro w2 h2 k2)
  refine bodyPost_ret (ret_row_tmp rfl _ _ w.heap.size 77 _ _ rfl h2 Try.underlying77 rfl (by rw [Try.info77]; rfl)) rfl ?_
  have n1 := k1.size
  simp at n1
  have k0 : Turns nobody w (w.alloc (.cells #[.int .i64 0, .int .i64 0, .int .u8 0, .int .u8 0, .int .u8 0, .int .u8 0, .int .u8 0, .int .u8 0, .int .u64 0, .int .u32 0, .int .u32 0] 77)) := (by repeat' (first | exact Turns.refl _ _ | assumption | exact Or.inl rfl | exact Or.inr (Nat.le_refl _) | apply Turns.alloc | apply Turns.drew | apply Turns.drewN | apply Turns.setCell | (apply Or.inr; simp; done) | (apply Or.inr; simp; omega) | exact fun _ hh => False.elim hh | exact fun _ hh => Or.inl hh | (intro i hi; right; (try simp only at hi); omega) | (intro i hi; right; simp at hi; omega) | refine Turns.step ?_ (by assumption) ?_))
  exact ⟨rfl, Turns.step (k0.trans k1) k2 (fun i hi => .inr (by omega))⟩

/-- Notes that are nil see nothing. -/
theorem see0 (A : Option Addr) (c : Nat) (bs : List Int) (w : World) (x y z : Int) (hk : ∀ W, Turns nobody w W → Calls Try.prog 23 #[.slice A bs.length c] W fun e w' => ∃ k s, e = .returned (.tuple #[.int .i64 k, .int .i64 s, .bool true]) ∧ Turns nobody W w') :
    Calls Try.prog 48 #[.pointer none, .slice A bs.length c, .agg #[.int .u64 x, .int .u32 y, .int .u32 z]] w fun e w' => e = .returned (.bool false) ∧ Turns nobody w w' := by
  have k0 : Turns nobody w (w.alloc (.cells #[.int .u64 x, .int .u32 y, .int .u32 z] 75)) := (by repeat' (first | exact Turns.refl _ _ | assumption | exact Or.inl rfl | exact Or.inr (Nat.le_refl _) | apply Turns.alloc | apply Turns.drew | apply Turns.drewN | apply Turns.setCell | (apply Or.inr; simp; done) | (apply Or.inr; simp; omega) | exact fun _ hh => False.elim hh | exact fun _ hh => Or.inl hh | (intro i hi; right; (try simp only at hi); omega) | (intro i hi; right; simp at hi; omega) | refine Turns.step ?_ (by assumption) ?_))
  have hk' := hide (hk _ k0)
  clear hk
  go_enter Try.func48, Try.ntmps48
  go_wp2_with fail
  refine (hk'.out).mono ?_
  rintro e w1 ⟨k, s, rfl, k1⟩
  go_wp2_with fail
  go_returns
  exact ⟨rfl, k0.trans k1⟩

set_option maxHeartbeats 2000000 in
set_option maxRecDepth 100000 in
theorem eventNobody_walk (q : Int) (w : World) (wq : (Lit.int .u16 q).wf = true) :
    Calls Try.prog 19 #[.int .u16 q] w fun e w' => e = .returned (.bool true) ∧ Below w.heap.size w w' := by
  obtain ⟨q0, q1⟩ := bounds_u16 wq
  clear wq
  obtain ⟨bs, eb⟩ : ∃ bs, built (evF 0 q (-1) zAd) = bs := ⟨_, rfl⟩
  obtain ⟨p1, p2, p3, p4, p5, p6, p7, p8⟩ := ev_read (kind := 0) (seq := q) (tag := -1) (src := zAd) (by decide) (by decide) ⟨q0, q1⟩ (by decide) (by decide) zAd_bytes eb
  have K := fun X k w hr hc hm => kind_yes X k bs w hr p3 hc hm p1 p2 p6 p5
  have S := fun w => sync_law 0 q (-1) zAd w (by decide) ⟨q0, q1⟩ (by decide) (by decide) eb
  clear p1 p2 p3 p4 p5 p6 p7 p8 eb
  replace K := hide K
  replace S := hide S
  go_enter Try.func19, Try.ntmps19
  go_wp2_with fail
  refine (eshown_at _).mono ?_
  rintro e w1 ⟨rfl, k1⟩
  go_wp2_with fail
  refine (take0 _).mono ?_
  rintro e w2 ⟨rfl, k2⟩
  replace k1 := k1.trans k2
  go_wp2_with fail
  refine (S.out _).mono ?_
  rintro e w3 ⟨X, k, rfl, o3, k3⟩
  obtain ⟨x1, x2⟩ := o3.caps
  have rX := o3.reads
  clear o3
  have H4 : ∀ W, Turns nobody w3 W → Calls Try.prog 23 #[.slice X bs.length k] W fun e w' => ∃ k s, e = .returned (.tuple #[.int .i64 k, .int .i64 s, .bool true]) ∧ Turns nobody W w' :=
    fun W kW => (K.out X k W (rX.still kW) x1 x2).mono (by rintro e w' ⟨rfl, kk⟩; exact ⟨_, _, rfl, kk⟩)
  replace H4 := hide H4
  go_wp2_with fail
  refine (see0 X k bs _ 0 0 0 H4.out).mono ?_
  rintro e w4 ⟨rfl, k4⟩
  go_wp2_with fail
  refine (len0 _).mono ?_
  rintro e w5 ⟨rfl, k5⟩
  go_wp2_with fail
  refine (lost0 _).mono ?_
  rintro e w6 ⟨rfl, k6⟩
  go_wp2_with fail
  go_returns
  exact ⟨rfl, Turns.none_below (((((k1.alloc _).trans k3).trans k4).trans k5).trans k6)⟩

end Go.Proofs.Ytbiplmlkgbicnaa
