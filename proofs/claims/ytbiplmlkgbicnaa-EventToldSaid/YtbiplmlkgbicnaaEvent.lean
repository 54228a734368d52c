/- Whether bytes are an event: read, Kind. -/
import Derived.Test.YtbiplmlkgbicnaaOpenF
set_option linter.unusedVariables false
namespace Go.Proofs.Ytbiplmlkgbicnaa
open Go.RowKit Go.Proofs.YtbiplmlkgbicnaaW.PrintWords

theorem and15 (x : Int) (h : 0 ≤ x ∧ x ≤ 255) : bits .and .u8 x 15 = x % 16 := by
  have a : ∀ n : Fin 256, bits .and .u8 (n.val : Int) 15 = (n.val : Int) % 16 := by decide +kernel
  have b := a ⟨x.toNat, by omega⟩
  simp only at b
  rwa [Int.toNat_of_nonneg h.1] at b
def isEv (er : Int) (f : Frm) : Bool := decide (er = 0) && (decide (f.typ = 35063) && (decide (34 ≤ f.data.length) && (decide (nth f.data 0 % 16 ≤ 3) && decide (nth f.data 1 % 16 = 2))))
theorem isEv_true {er : Int} {f : Frm} (h : isEv er f = true) : er = 0 ∧ f.typ = 35063 ∧ 34 ≤ f.data.length ∧ nth f.data 0 % 16 ≤ 3 ∧ nth f.data 1 % 16 = 2 := by
  simpa [isEv] using h

set_option maxHeartbeats 2000000 in
set_option maxRecDepth 100000 in
theorem read_law (A : Option Addr) (c : Nat) (bs : List Int) (w : World) (hr : ReadsB w A bs) (hB : Bytes bs) (hc : bs.length ≤ c) (hm : c ≤ maxLen) {er : Int} {f : Frm} (he : parseE bs = er) (hf : parseF bs = f) (hd : Bytes f.data) :
    Calls Try.prog 59 #[.slice A bs.length c] w fun e w' => ∃ X k, e = .returned (.tuple #[.agg #[.int .u8 f.d.a0, .int .u8 f.d.a1, .int .u8 f.d.a2, .int .u8 f.d.a3, .int .u8 f.d.a4, .int .u8 f.d.a5, .int .u8 f.s.a0, .int .u8 f.s.a1, .int .u8 f.s.a2, .int .u8 f.s.a3, .int .u8 f.s.a4, .int .u8 f.s.a5, .int .i64 f.tag, .int .i64 f.typ, .slice X f.data.length k], .bool (isEv er f)]) ∧ OwnB w' w.heap.size (.slice X f.data.length k) f.data ∧ Turns nobody w w' := by
  have x0 := hd.at_ 0
  have x1 := hd.at_ 1
  have a0 := and15 _ x0
  have a1 := and15 _ x1
  clear hd
  by_cases h1 : er = 0
  · by_cases h2 : f.typ = 35063
    · by_cases h3 : 34 ≤ f.data.length
      · have l3 : (34 : Int) ≤ (f.data.length : Int) := by omega
        have i0 : (0 : Int) < (f.data.length : Int) := by omega
        have i1 : (1 : Int) < (f.data.length : Int) := by omega
        by_cases h4 : nth f.data 0 % 16 ≤ 3
        · by_cases h5 : nth f.data 1 % 16 = 2
          · have hv : isEv er f = true := by simp [isEv, h1, h2, h3, h4, h5]
            have g1 : (er == 0) = true := by simp [h1]
            have g2 : (f.typ == 35063) = true := by simp [h2]
            have g5 : (nth f.data 1 % 16 == 2) = true := by simp [h5]
            rw [hv]
            clear hv h1 h2 h5
            as_aux_lemma =>
              have k0 : Turns nobody w (w.alloc (.cells #[.int .u8 0, .int .u8 0, .int .u8 0, .int .u8 0, .int .u8 0, .int .u8 0, .int .u8 0, .int .u8 0, .int .u8 0, .int .u8 0, .int .u8 0, .int .u8 0, .int .i64 0, .int .i64 0, .slice none 0 0] 39)) := (by repeat' (first | exact Turns.refl _ _ | assumption | exact Or.inl rfl | exact Or.inr (Nat.le_refl _) | apply Turns.alloc | apply Turns.drew | apply Turns.drewN | apply Turns.setCell | (apply Or.inr; simp; done) | (apply Or.inr; simp; omega) | exact fun _ hh => False.elim hh | exact fun _ hh => Or.inl hh | (intro i hi; right; (try simp only at hi); omega) | (intro i hi; right; simp at hi; omega) | refine Turns.step ?_ (by assumption) ?_))
              replace hr := hide (hr.still k0)
              replace hB := hide hB
              replace he := hide he
              replace hf := hide hf
              go_enter Try.func59, Try.ntmps59
              go_wp2_with fail
              refine (parse_as A c bs _ hr.out hB.out hc hm he.out hf.out).mono ?_
              rintro e w1 ⟨X, k, rfl, o1, k1⟩
              as_aux_lemma =>
                have B1 := (Blk.new w #[.int .u8 0, .int .u8 0, .int .u8 0, .int .u8 0, .int .u8 0, .int .u8 0, .int .u8 0, .int .u8 0, .int .u8 0, .int .u8 0, .int .u8 0, .int .u8 0, .int .i64 0, .int .i64 0, .slice none 0 0] 39).turns k1 (by intro hh; first | exact False.elim hh | ((try simp only at hh); omega) | (simp at hh; omega))
                have n1 := k1.size
                replace k1 := k0.trans k1
                clear k0
                simp at n1
                ((obtain ⟨b, o, rfl, lt, hcell⟩ := o1.reads.nth (by omega); have c0 := hcell 0 (by omega); have c1 := hcell 1 (by omega); rw [Nat.add_zero] at c0; clear hcell))
                go_wp2_with (refine wpList_store_whole rfl 39 (.tmp 2) (.tmp 41) (by rfl) w.heap.size _ #[.int .u8 f.d.a0, .int .u8 f.d.a1, .int .u8 f.d.a2, .int .u8 f.d.a3, .int .u8 f.d.a4, .int .u8 f.d.a5, .int .u8 f.s.a0, .int .u8 f.s.a1, .int .u8 f.s.a2, .int .u8 f.s.a3, .int .u8 f.s.a4, .int .u8 f.s.a5, .int .i64 f.tag, .int .i64 f.typ, .slice (some ⟨b, o, none⟩) f.data.length k] 39 (by rfl) (by rfl) (B1.alloc _) rfl Try.info39 (by simp [Value.oneCell']) ?_; intro w2 h2 k2)
                refine bodyPost_ret (ret_frame rfl _ _ w.heap.size _ rfl h2 rfl) rfl ?_
                have kA := ((Turns.refl _ w1).alloc _).trans k2
                have oA := OwnB.lower (base' := w.heap.size) o1 (by simp)
                refine ⟨_, k, rfl, OwnB.turns oA kA (fun i hi e => by have := (o1.lt i hi).1; simp at this; omega), Turns.step k1 kA (fun i hi => .inr (by omega))⟩
          · have hv : isEv er f = false := by simp [isEv, h5]
            have g1 : (er == 0) = true := by simp [h1]
            have g2 : (f.typ == 35063) = true := by simp [h2]
            have g5 : (nth f.data 1 % 16 == 2) = false := by simp [h5]
            rw [hv]
            clear hv h1 h2 h5
            as_aux_lemma =>
              have k0 : Turns nobody w (w.alloc (.cells #[.int .u8 0, .int .u8 0, .int .u8 0, .int .u8 0, .int .u8 0, .int .u8 0, .int .u8 0, .int .u8 0, .int .u8 0, .int .u8 0, .int .u8 0, .int .u8 0, .int .i64 0, .int .i64 0, .slice none 0 0] 39)) := (by repeat' (first | exact Turns.refl _ _ | assumption | exact Or.inl rfl | exact Or.inr (Nat.le_refl _) | apply Turns.alloc | apply Turns.drew | apply Turns.drewN | apply Turns.setCell | (apply Or.inr; simp; done) | (apply Or.inr; simp; omega) | exact fun _ hh => False.elim hh | exact fun _ hh => Or.inl hh | (intro i hi; right; (try simp only at hi); omega) | (intro i hi; right; simp at hi; omega) | refine Turns.step ?_ (by assumption) ?_))
              replace hr := hide (hr.still k0)
              replace hB := hide hB
              replace he := hide he
              replace hf := hide hf
              go_enter Try.func59, Try.ntmps59
              go_wp2_with fail
              refine (parse_as A c bs _ hr.out hB.out hc hm he.out hf.out).mono ?_
              rintro e w1 ⟨X, k, rfl, o1, k1⟩
              as_aux_lemma =>
                have B1 := (Blk.new w #[.int .u8 0, .int .u8 0, .int .u8 0, .int .u8 0, .int .u8 0, .int .u8 0, .int .u8 0, .int .u8 0, .int .u8 0, .int .u8 0, .int .u8 0, .int .u8 0, .int .i64 0, .int .i64 0, .slice none 0 0] 39).turns k1 (by intro hh; first | exact False.elim hh | ((try simp only at hh); omega) | (simp at hh; omega))
                have n1 := k1.size
                replace k1 := k0.trans k1
                clear k0
                simp at n1
                ((obtain ⟨b, o, rfl, lt, hcell⟩ := o1.reads.nth (by omega); have c0 := hcell 0 (by omega); have c1 := hcell 1 (by omega); rw [Nat.add_zero] at c0; clear hcell))
                go_wp2_with (refine wpList_store_whole rfl 39 (.tmp 2) (.tmp 41) (by rfl) w.heap.size _ #[.int .u8 f.d.a0, .int .u8 f.d.a1, .int .u8 f.d.a2, .int .u8 f.d.a3, .int .u8 f.d.a4, .int .u8 f.d.a5, .int .u8 f.s.a0, .int .u8 f.s.a1, .int .u8 f.s.a2, .int .u8 f.s.a3, .int .u8 f.s.a4, .int .u8 f.s.a5, .int .i64 f.tag, .int .i64 f.typ, .slice (some ⟨b, o, none⟩) f.data.length k] 39 (by rfl) (by rfl) (B1.alloc _) rfl Try.info39 (by simp [Value.oneCell']) ?_; intro w2 h2 k2)
                refine bodyPost_ret (ret_frame rfl _ _ w.heap.size _ rfl h2 rfl) rfl ?_
                have kA := ((Turns.refl _ w1).alloc _).trans k2
                have oA := OwnB.lower (base' := w.heap.size) o1 (by simp)
                refine ⟨_, k, rfl, OwnB.turns oA kA (fun i hi e => by have := (o1.lt i hi).1; simp at this; omega), Turns.step k1 kA (fun i hi => .inr (by omega))⟩
        · have hv : isEv er f = false := by simp [isEv, h4]
          have g1 : (er == 0) = true := by simp [h1]
          have g2 : (f.typ == 35063) = true := by simp [h2]
          rw [hv]
          clear hv h1 h2
          as_aux_lemma =>
            have k0 : Turns nobody w (w.alloc (.cells #[.int .u8 0, .int .u8 0, .int .u8 0, .int .u8 0, .int .u8 0, .int .u8 0, .int .u8 0, .int .u8 0, .int .u8 0, .int .u8 0, .int .u8 0, .int .u8 0, .int .i64 0, .int .i64 0, .slice none 0 0] 39)) := (by repeat' (first | exact Turns.refl _ _ | assumption | exact Or.inl rfl | exact Or.inr (Nat.le_refl _) | apply Turns.alloc | apply Turns.drew | apply Turns.drewN | apply Turns.setCell | (apply Or.inr; simp; done) | (apply Or.inr; simp; omega) | exact fun _ hh => False.elim hh | exact fun _ hh => Or.inl hh | (intro i hi; right; (try simp only at hi); omega) | (intro i hi; right; simp at hi; omega) | refine Turns.step ?_ (by assumption) ?_))
            replace hr := hide (hr.still k0)
            replace hB := hide hB
            replace he := hide he
            replace hf := hide hf
            go_enter Try.func59, Try.ntmps59
            go_wp2_with fail
            refine (parse_as A c bs _ hr.out hB.out hc hm he.out hf.out).mono ?_
            rintro e w1 ⟨X, k, rfl, o1, k1⟩
            as_aux_lemma =>
              have B1 := (Blk.new w #[.int .u8 0, .int .u8 0, .int .u8 0, .int .u8 0, .int .u8 0, .int .u8 0, .int .u8 0, .int .u8 0, .int .u8 0, .int .u8 0, .int .u8 0, .int .u8 0, .int .i64 0, .int .i64 0, .slice none 0 0] 39).turns k1 (by intro hh; first | exact False.elim hh | ((try simp only at hh); omega) | (simp at hh; omega))
              have n1 := k1.size
              replace k1 := k0.trans k1
              clear k0
              simp at n1
              ((obtain ⟨b, o, rfl, lt, hcell⟩ := o1.reads.nth (by omega); have c0 := hcell 0 (by omega); have c1 := hcell 1 (by omega); rw [Nat.add_zero] at c0; clear hcell))
              go_wp2_with (refine wpList_store_whole rfl 39 (.tmp 2) (.tmp 41) (by rfl) w.heap.size _ #[.int .u8 f.d.a0, .int .u8 f.d.a1, .int .u8 f.d.a2, .int .u8 f.d.a3, .int .u8 f.d.a4, .int .u8 f.d.a5, .int .u8 f.s.a0, .int .u8 f.s.a1, .int .u8 f.s.a2, .int .u8 f.s.a3, .int .u8 f.s.a4, .int .u8 f.s.a5, .int .i64 f.tag, .int .i64 f.typ, .slice (some ⟨b, o, none⟩) f.data.length k] 39 (by rfl) (by rfl) (B1.alloc _) rfl Try.info39 (by simp [Value.oneCell']) ?_; intro w2 h2 k2)
              refine bodyPost_ret (ret_frame rfl _ _ w.heap.size _ rfl h2 rfl) rfl ?_
              have kA := ((Turns.refl _ w1).alloc _).trans k2
              have oA := OwnB.lower (base' := w.heap.size) o1 (by simp)
              refine ⟨_, k, rfl, OwnB.turns oA kA (fun i hi e => by have := (o1.lt i hi).1; simp at this; omega), Turns.step k1 kA (fun i hi => .inr (by omega))⟩
      · have hv : isEv er f = false := by simp [isEv, h3]
        have g1 : (er == 0) = true := by simp [h1]
        have g2 : (f.typ == 35063) = true := by simp [h2]
        have l3 : ¬ ((34 : Int) ≤ (f.data.length : Int)) := by omega
        rw [hv]
        clear hv h1 h2
        as_aux_lemma =>
          have k0 : Turns nobody w (w.alloc (.cells #[.int .u8 0, .int .u8 0, .int .u8 0, .int .u8 0, .int .u8 0, .int .u8 0, .int .u8 0, .int .u8 0, .int .u8 0, .int .u8 0, .int .u8 0, .int .u8 0, .int .i64 0, .int .i64 0, .slice none 0 0] 39)) := (by repeat' (first | exact Turns.refl _ _ | assumption | exact Or.inl rfl | exact Or.inr (Nat.le_refl _) | apply Turns.alloc | apply Turns.drew | apply Turns.drewN | apply Turns.setCell | (apply Or.inr; simp; done) | (apply Or.inr; simp; omega) | exact fun _ hh => False.elim hh | exact fun _ hh => Or.inl hh | (intro i hi; right; (try simp only at hi); omega) | (intro i hi; right; simp at hi; omega) | refine Turns.step ?_ (by assumption) ?_))
          replace hr := hide (hr.still k0)
          replace hB := hide hB
          replace he := hide he
          replace hf := hide hf
          go_enter Try.func59, Try.ntmps59
          go_wp2_with fail
          refine (parse_as A c bs _ hr.out hB.out hc hm he.out hf.out).mono ?_
          rintro e w1 ⟨X, k, rfl, o1, k1⟩
          as_aux_lemma =>
            have B1 := (Blk.new w #[.int .u8 0, .int .u8 0, .int .u8 0, .int .u8 0, .int .u8 0, .int .u8 0, .int .u8 0, .int .u8 0, .int .u8 0, .int .u8 0, .int .u8 0, .int .u8 0, .int .i64 0, .int .i64 0, .slice none 0 0] 39).turns k1 (by intro hh; first | exact False.elim hh | ((try simp only at hh); omega) | (simp at hh; omega))
            have n1 := k1.size
            replace k1 := k0.trans k1
            clear k0
            simp at n1
            (skip)
            go_wp2_with (refine wpList_store_whole rfl 39 (.tmp 2) (.tmp 41) (by rfl) w.heap.size _ #[.int .u8 f.d.a0, .int .u8 f.d.a1, .int .u8 f.d.a2, .int .u8 f.d.a3, .int .u8 f.d.a4, .int .u8 f.d.a5, .int .u8 f.s.a0, .int .u8 f.s.a1, .int .u8 f.s.a2, .int .u8 f.s.a3, .int .u8 f.s.a4, .int .u8 f.s.a5, .int .i64 f.tag, .int .i64 f.typ, .slice X f.data.length k] 39 (by rfl) (by rfl) (B1.alloc _) rfl Try.info39 (by simp [Value.oneCell']) ?_; intro w2 h2 k2)
            refine bodyPost_ret (ret_frame rfl _ _ w.heap.size _ rfl h2 rfl) rfl ?_
            have kA := ((Turns.refl _ w1).alloc _).trans k2
            have oA := OwnB.lower (base' := w.heap.size) o1 (by simp)
            refine ⟨_, k, rfl, OwnB.turns oA kA (fun i hi e => by have := (o1.lt i hi).1; simp at this; omega), Turns.step k1 kA (fun i hi => .inr (by omega))⟩
    · have hv : isEv er f = false := by simp [isEv, h2]
      have g1 : (er == 0) = true := by simp [h1]
      have g2 : (f.typ == 35063) = false := by simp [h2]
      rw [hv]
      clear hv h1 h2
      as_aux_lemma =>
        have k0 : Turns nobody w (w.alloc (.cells #[.int .u8 0, .int .u8 0, .int .u8 0, .int .u8 0, .int .u8 0, .int .u8 0, .int .u8 0, .int .u8 0, .int .u8 0, .int .u8 0, .int .u8 0, .int .u8 0, .int .i64 0, .int .i64 0, .slice none 0 0] 39)) := (by repeat' (first | exact Turns.refl _ _ | assumption | exact Or.inl rfl | exact Or.inr (Nat.le_refl _) | apply Turns.alloc | apply Turns.drew | apply Turns.drewN | apply Turns.setCell | (apply Or.inr; simp; done) | (apply Or.inr; simp; omega) | exact fun _ hh => False.elim hh | exact fun _ hh => Or.inl hh | (intro i hi; right; (try simp only at hi); omega) | (intro i hi; right; simp at hi; omega) | refine Turns.step ?_ (by assumption) ?_))
        replace hr := hide (hr.still k0)
        replace hB := hide hB
        replace he := hide he
        replace hf := hide hf
        go_enter Try.func59, Try.ntmps59
        go_wp2_with fail
        refine (parse_as A c bs _ hr.out hB.out hc hm he.out hf.out).mono ?_
        rintro e w1 ⟨X, k, rfl, o1, k1⟩
        as_aux_lemma =>
          have B1 := (Blk.new w #[.int .u8 0, .int .u8 0, .int .u8 0, .int .u8 0, .int .u8 0, .int .u8 0, .int .u8 0, .int .u8 0, .int .u8 0, .int .u8 0, .int .u8 0, .int .u8 0, .int .i64 0, .int .i64 0, .slice none 0 0] 39).turns k1 (by intro hh; first | exact False.elim hh | ((try simp only at hh); omega) | (simp at hh; omega))
          have n1 := k1.size
          replace k1 := k0.trans k1
          clear k0
          simp at n1
          (skip)
          go_wp2_with (refine wpList_store_whole rfl 39 (.tmp 2) (.tmp 41) (by rfl) w.heap.size _ #[.int .u8 f.d.a0, .int .u8 f.d.a1, .int .u8 f.d.a2, .int .u8 f.d.a3, .int .u8 f.d.a4, .int .u8 f.d.a5, .int .u8 f.s.a0, .int .u8 f.s.a1, .int .u8 f.s.a2, .int .u8 f.s.a3, .int .u8 f.s.a4, .int .u8 f.s.a5, .int .i64 f.tag, .int .i64 f.typ, .slice X f.data.length k] 39 (by rfl) (by rfl) (B1.alloc _) rfl Try.info39 (by simp [Value.oneCell']) ?_; intro w2 h2 k2)
          refine bodyPost_ret (ret_frame rfl _ _ w.heap.size _ rfl h2 rfl) rfl ?_
          have kA := ((Turns.refl _ w1).alloc _).trans k2
          have oA := OwnB.lower (base' := w.heap.size) o1 (by simp)
          refine ⟨_, k, rfl, OwnB.turns oA kA (fun i hi e => by have := (o1.lt i hi).1; simp at this; omega), Turns.step k1 kA (fun i hi => .inr (by omega))⟩
  · have hv : isEv er f = false := by simp [isEv, h1]
    have g1 : (er == 0) = false := by simp [h1]
    rw [hv]
    clear hv h1
    as_aux_lemma =>
      have k0 : Turns nobody w (w.alloc (.cells #[.int .u8 0, .int .u8 0, .int .u8 0, .int .u8 0, .int .u8 0, .int .u8 0, .int .u8 0, .int .u8 0, .int .u8 0, .int .u8 0, .int .u8 0, .int .u8 0, .int .i64 0, .int .i64 0, .slice none 0 0] 39)) := (by repeat' (first | exact Turns.refl _ _ | assumption | exact Or.inl rfl | exact Or.inr (Nat.le_refl _) | apply Turns.alloc | apply Turns.drew | apply Turns.drewN | apply Turns.setCell | (apply Or.inr; simp; done) | (apply Or.inr; simp; omega) | exact fun _ hh => False.elim hh | exact fun _ hh => Or.inl hh | (intro i hi; right; (try simp only at hi); omega) | (intro i hi; right; simp at hi; omega) | refine Turns.step ?_ (by assumption) ?_))
      replace hr := hide (hr.still k0)
      replace hB := hide hB
      replace he := hide he
      replace hf := hide hf
      go_enter Try.func59, Try.ntmps59
      go_wp2_with fail
      refine (parse_as A c bs _ hr.out hB.out hc hm he.out hf.out).mono ?_
      rintro e w1 ⟨X, k, rfl, o1, k1⟩
      as_aux_lemma =>
        have B1 := (Blk.new w #[.int .u8 0, .int .u8 0, .int .u8 0, .int .u8 0, .int .u8 0, .int .u8 0, .int .u8 0, .int .u8 0, .int .u8 0, .int .u8 0, .int .u8 0, .int .u8 0, .int .i64 0, .int .i64 0, .slice none 0 0] 39).turns k1 (by intro hh; first | exact False.elim hh | ((try simp only at hh); omega) | (simp at hh; omega))
        have n1 := k1.size
        replace k1 := k0.trans k1
        clear k0
        simp at n1
        (skip)
        go_wp2_with (refine wpList_store_whole rfl 39 (.tmp 2) (.tmp 41) (by rfl) w.heap.size _ #[.int .u8 f.d.a0, .int .u8 f.d.a1, .int .u8 f.d.a2, .int .u8 f.d.a3, .int .u8 f.d.a4, .int .u8 f.d.a5, .int .u8 f.s.a0, .int .u8 f.s.a1, .int .u8 f.s.a2, .int .u8 f.s.a3, .int .u8 f.s.a4, .int .u8 f.s.a5, .int .i64 f.tag, .int .i64 f.typ, .slice X f.data.length k] 39 (by rfl) (by rfl) (B1.alloc _) rfl Try.info39 (by simp [Value.oneCell']) ?_; intro w2 h2 k2)
        refine bodyPost_ret (ret_frame rfl _ _ w.heap.size _ rfl h2 rfl) rfl ?_
        have kA := ((Turns.refl _ w1).alloc _).trans k2
        have oA := OwnB.lower (base' := w.heap.size) o1 (by simp)
        refine ⟨_, k, rfl, OwnB.turns oA kA (fun i hi e => by have := (o1.lt i hi).1; simp at this; omega), Turns.step k1 kA (fun i hi => .inr (by omega))⟩

end Go.Proofs.Ytbiplmlkgbicnaa
