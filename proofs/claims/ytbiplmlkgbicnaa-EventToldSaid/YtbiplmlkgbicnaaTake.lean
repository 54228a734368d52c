/- What frame's reader takes. -/
import Derived.Test.YtbiplmlkgbicnaaBuild
set_option linter.unusedVariables false
namespace Go.Proofs.Ytbiplmlkgbicnaa
open Go.RowKit Go.Proofs.YtbiplmlkgbicnaaW.PrintWords

theorem ReadsB.drop {w : World} {b o : Nat} {bs : List Int} (h : ReadsB w (some ⟨b, o, none⟩) bs) (k : Nat) : ReadsB w (some ⟨b, o + k, none⟩) (bs.drop k) := by
  rcases h with rfl | ⟨b', o', e, h⟩
  · exact .inl (by simp)
  · injection e with e
    injection e with e1 e2 _
    subst e1 e2
    refine .inr ⟨b, o + k, rfl, fun j u hj => ?_⟩
    rw [Nat.add_assoc]
    exact h (k + j) u (by simpa [byteCells] using hj)
theorem ReadsB.take {w : World} {A : Option Addr} {bs : List Int} (h : ReadsB w A bs) (k : Nat) : ReadsB w A (bs.take k) := by
  rcases h with rfl | ⟨b', o', e, h⟩
  · exact .inl (by simp)
  · refine .inr ⟨b', o', e, fun j u hj => h j u ?_⟩
    rw [byteCells, List.map_take, List.getElem?_take] at hj
    split at hj
    · exact hj
    · cases hj

set_option maxHeartbeats 1000000 in
theorem take_law {w : World} {p : Nat} {b o c : Nat} {bs : List Int} {rest : List Value} (h : Blk w p (.slice (some ⟨b, o, none⟩) bs.length c :: rest).toArray 114) (hr : ReadsB w (some ⟨b, o, none⟩) bs) (hb : b ≠ p) (k : Nat) (hk0 : 0 < k) (hk : k ≤ bs.length) (hc : bs.length ≤ c) (hm : c ≤ maxLen) :
    Calls Try.prog 64 #[.pointer (some ⟨p, 0, none⟩), .int .i64 k] w fun e w' => e = .returned (.slice (some ⟨b, o, none⟩) k c) ∧
      ∃ o', Blk w' p (.slice (some ⟨b, o', none⟩) (bs.drop k).length (c - k) :: rest).toArray 114 ∧ ReadsB w' (some ⟨b, o', none⟩) (bs.drop k) ∧ Turns (· = p) w w' := by
  unfold maxLen at hm
  have lt := h.lt
  have c0 : w.cell? ⟨p, 0, none⟩ = some (.slice (some ⟨b, o, none⟩) bs.length c) := h.cell 0
  have f0 := h.frozen 0
  have i0 : (0 : Int) ≤ (k : Int) := by omega
  have i1 : (k : Int) ≤ (bs.length : Int) := by omega
  have i2 : (k : Int) ≤ (c : Int) := by omega
  replace h := hide h
  replace hr := hide hr
  by_cases hck : c = k
  · subst hck
    go_enter Try.func64, Try.ntmps64
    go_wp2
    go_returns
    have e0 : bs.drop c = [] := List.drop_eq_nil_of_le hc
    refine ⟨rfl, o, ?_, .inl e0, (by repeat' (first | exact Turns.refl _ _ | assumption | exact Or.inl rfl | exact Or.inr (Nat.le_refl _) | apply Turns.alloc | apply Turns.drew | apply Turns.drewN | apply Turns.setCell | (apply Or.inr; simp; done) | (apply Or.inr; simp; omega) | exact fun _ hh => False.elim hh | exact fun _ hh => Or.inl hh | (intro i hi; right; (try simp only at hi); omega) | (intro i hi; right; simp at hi; omega) | refine Turns.step ?_ (by assumption) ?_))⟩
    rw [e0, Nat.sub_self]
    simpa using h.out.set 0 (.slice (some ⟨b, o, none⟩) 0 0)
  · go_enter Try.func64, Try.ntmps64
    go_wp2
    go_returns
    have k1 : Turns (· = p) w (w.setCell ⟨p, 0, none⟩ (.slice (some ⟨b, o + k, none⟩) (bs.length - k) (c - k))) := (by repeat' (first | exact Turns.refl _ _ | assumption | exact Or.inl rfl | exact Or.inr (Nat.le_refl _) | apply Turns.alloc | apply Turns.drew | apply Turns.drewN | apply Turns.setCell | (apply Or.inr; simp; done) | (apply Or.inr; simp; omega) | exact fun _ hh => False.elim hh | exact fun _ hh => Or.inl hh | (intro i hi; right; (try simp only at hi); omega) | (intro i hi; right; simp at hi; omega) | refine Turns.step ?_ (by assumption) ?_))
    refine ⟨rfl, o + k, ?_, (hr.out.turns k1 (by rintro a ⟨⟩; exact hb)).drop k, k1⟩
    rw [List.length_drop]
    simpa using h.out.set 0 (.slice (some ⟨b, o + k, none⟩) (bs.length - k) (c - k))

theorem or_bytes (x y : Int) (hx : 0 ≤ x ∧ x ≤ 255) (hy : 0 ≤ y ∧ y ≤ 255) : bits .or .i64 (x * 256) y = x * 256 + y := by
  obtain ⟨a, rfl⟩ := Int.eq_ofNat_of_zero_le hx.1
  obtain ⟨b, rfl⟩ := Int.eq_ofNat_of_zero_le hy.1
  have ha : a ≤ 255 := by omega
  have hb : b ≤ 255 := by omega
  have e : (a : Int) * 256 = ((a * 256 : Nat) : Int) := by omega
  rw [e]
  have n1 : ∀ n : Nat, n < 9223372036854775808 → (BitVec.ofInt 64 (n : Int)).toNat = n := by
    intro n hn
    rw [BitVec.ofInt_natCast, BitVec.toNat_ofNat]
    exact Nat.mod_eq_of_lt (by omega)
  have n2 : a * 256 ||| b = a * 256 + b := by
    have := Nat.shiftLeft_add_eq_or_of_lt (i := 8) (b := b) (by omega) a
    rw [Nat.shiftLeft_eq] at this
    exact this.symm
  show IntKind.i64.wrap ((BitVec.ofInt 64 ((a * 256 : Nat) : Int) ||| BitVec.ofInt 64 (b : Int)).toNat : Int) = _
  rw [BitVec.toNat_or, n1 _ (by omega), n1 _ (by omega), n2, IntKind.wrap_i64]
  omega
theorem nth_drop (bs : List Int) (k i : Nat) : nth (bs.drop k) i = nth bs (k + i) := by simp [nth, List.getD]

set_option maxHeartbeats 1000000 in
theorem number_law {w : World} {p : Nat} {b o c : Nat} {bs : List Int} {rest : List Value} (h : Blk w p (.slice (some ⟨b, o, none⟩) bs.length c :: rest).toArray 114) (hr : ReadsB w (some ⟨b, o, none⟩) bs) (hb : b ≠ p) (hk : 2 ≤ bs.length) (hc : bs.length ≤ c) (hm : c ≤ maxLen) (hB : Bytes bs) :
    Calls Try.prog 65 #[.pointer (some ⟨p, 0, none⟩)] w fun e w' => e = .returned (.int .i64 (num bs 0)) ∧
      ∃ o', Blk w' p (.slice (some ⟨b, o', none⟩) (bs.drop 2).length (c - 2) :: rest).toArray 114 ∧ ReadsB w' (some ⟨b, o', none⟩) (bs.drop 2) ∧ Turns (· = p) w w' := by
  have x0 := hB.at_ 0
  have x1 := hB.at_ 1
  have hr' := hide hr
  obtain ⟨b', o', e, hlt, hcell⟩ := hr.nth (by omega)
  injection e with e
  injection e with e1 e2 _
  subst e1 e2
  have c0 := hcell 0 (by omega)
  have c1 := hcell 1 (by omega)
  replace c0 := hide c0
  replace c1 := hide c1
  clear hcell hr
  go_enter Try.func65, Try.ntmps65
  go_wp2_with fail
  refine (take_law h hr'.out hb 2 (by decide) hk hc hm).mono ?_
  rintro e w1 ⟨rfl, o1, h1, r1, k1⟩
  have d0 : w1.cell? ⟨b, o, none⟩ = some (.int .u8 (nth bs 0)) := (World.cell?_of_block (k1.block b hlt hb)).trans c0.out
  have d1 : w1.cell? ⟨b, o + 1, none⟩ = some (.int .u8 (nth bs 1)) := (World.cell?_of_block (k1.block b hlt hb)).trans c1.out
  replace h1 := hide h1
  replace r1 := hide r1
  replace k1 := hide k1
  go_wp2_with fail
  go_quiet (fail)
  go_wp2_with fail
  go_returns
  have kd : Turns nobody w1 (w1.drewN nq) := (by repeat' (first | exact Turns.refl _ _ | assumption | exact Or.inl rfl | exact Or.inr (Nat.le_refl _) | apply Turns.alloc | apply Turns.drew | apply Turns.drewN | apply Turns.setCell | (apply Or.inr; simp; done) | (apply Or.inr; simp; omega) | exact fun _ hh => False.elim hh | exact fun _ hh => Or.inl hh | (intro i hi; right; (try simp only at hi); omega) | (intro i hi; right; simp at hi; omega) | refine Turns.step ?_ (by assumption) ?_))
  rw [or_bytes _ _ x0 x1]
  exact ⟨rfl, o1, h1.out.drewN nq, r1.out.still kd, k1.out.drewN nq⟩

theorem turns_setRow {S : Nat → Prop} {a w : World} (h : Turns S a w) {g : Nat} (hg : S g ∨ a.heap.size ≤ g) (cs : Array Value) : Turns S a (w.setRow g cs) :=
  ⟨h.os, h.tape, h.output, by simpa [World.setRow] using h.size, fun k hk hn => (setRow_other w g k cs (fun e => by rcases hg with hg | hg; exact hn (e ▸ hg); omega)).trans (h.block k hk hn)⟩

theorem step_copy_own {P : Program} {w : World} {ops : Array Oper} {o : Oper} {a : Act} {K : Act → World → Prop} {Q : Exit → Act → World → Prop} {E : Prop} (hgd : o.guard = none) (d s : Operand) (dT sT : TypeId)
    (ho : o.op = .call { callee := .builtin .copy, args := #[d, s], argTypes := #[dT, sT] }) (elem : TypeId) (hu : P.underlying dT = some (.slice elem)) (hsz : (P.info? elem).map (·.size) = some 1)
    (g off dLen dCap : Nat) (ad : Addr) (sLen sCap : Nat) (hd : a.eval d = .slice (some ⟨g, off, none⟩) dLen dCap) (hs : a.eval s = .slice (some ad) sLen sCap)
    (cur : Array Value) (t : TypeId) (hg : w.heap[g]? = some (.cells cur t (0, 0))) (cs : List Value) (hn : cs.length = Nat.min sLen dLen)
    (hsrc : ∀ j v, cs[j]? = some v → w.cell? (ad.add j) = some v) (hfit : off + cs.length ≤ cur.size) (h1 : ∀ v ∈ cs, v.oneCell' = true)
    (h : ∀ w', Blk w' g (cur.toList.take off ++ (cs ++ cur.toList.drop (off + cs.length))).toArray t → Turns (· = g) w w' → K (a.put o.dst (goInt cs.length)) w') : if Region.wanted o (yielded ops a.tmps) = true then Oper.wp P o a w K Q else E := by
  have hw : Region.wanted o (yielded ops a.tmps) = true := by simp [Region.wanted, hgd]
  rw [if_pos hw]
  have hrun := run_copy_row (P := P) w dT sT o.type elem g off dLen dCap ad sLen sCap cur t cs hu hsz hg hn hsrc hfit h1
  unfold Oper.wp
  simp [execOp, ho, resolve, invoke, builtin, hd, hs, hrun, Result.andThen]
  exact h _ (setRow_heap w g cur _ t _ hg) (turns_setRow (S := (· = g)) (Turns.refl _ w) (.inl rfl) _)

def six' (bs : List Int) (i : Nat) : List Value := [.int .u8 (nth bs i), .int .u8 (nth bs (i + 1)), .int .u8 (nth bs (i + 2)), .int .u8 (nth bs (i + 3)), .int .u8 (nth bs (i + 4)), .int .u8 (nth bs (i + 5))]
theorem six_src {w : World} {b o : Nat} {bs : List Int} (h : ReadsB w (some ⟨b, o, none⟩) bs) (hk : 6 ≤ bs.length) : ∀ j v, (six' bs 0)[j]? = some v → w.cell? ((⟨b, o, none⟩ : Addr).add j) = some v := by
  obtain ⟨b', o', e, hlt, hcell⟩ := h.nth (by omega)
  injection e with e
  injection e with e1 e2 _
  subst e1 e2
  refine six ?_ ?_ ?_ ?_ ?_ ?_
  all_goals (rw [add_at]; exact hcell _ (by omega))
theorem six_one (bs : List Int) (i : Nat) : ∀ v ∈ six' bs i, v.oneCell' = true := by
  intro v hv
  simp [six'] at hv
  rcases hv with rfl | rfl | rfl | rfl | rfl | rfl <;> rfl
theorem six_drop (bs : List Int) (k : Nat) : six' (bs.drop k) 0 = six' bs k := by simp [six', nth_drop]
theorem Try.info5s : (Try.prog.info? 5).map (·.size) = some 1 := by kernel_rfl
theorem Blk.setRow {w : World} {g : Nat} {cs cs' : Array Value} {t : TypeId} (h : Blk w g cs t) : Blk (w.setRow g cs') g cs' t := setRow_heap w g cs cs' t _ h

set_option maxHeartbeats 2000000 in
set_option maxRecDepth 100000 in
theorem head_law {w : World} {p : Nat} {b o c : Nat} {bs : List Int} {f : Frm} {v : Value} (h : Blk w p (.slice (some ⟨b, o, none⟩) bs.length c :: #[.int .u8 f.d.a0, .int .u8 f.d.a1, .int .u8 f.d.a2, .int .u8 f.d.a3, .int .u8 f.d.a4, .int .u8 f.d.a5, .int .u8 f.s.a0, .int .u8 f.s.a1, .int .u8 f.s.a2, .int .u8 f.s.a3, .int .u8 f.s.a4, .int .u8 f.s.a5, .int .i64 f.tag, .int .i64 f.typ, v].toList).toArray 114) (hr : ReadsB w (some ⟨b, o, none⟩) bs) (hb : b ≠ p) (hk : 12 ≤ bs.length) (hc : bs.length ≤ c) (hm : c ≤ maxLen) :
    Calls Try.prog 63 #[.pointer (some ⟨p, 0, none⟩)] w fun e w' => e = .returned (.tuple #[]) ∧
      ∃ o', Blk w' p (.slice (some ⟨b, o', none⟩) (bs.drop 12).length (c - 12) :: (six' bs 0 ++ (six' bs 6 ++ [.int .i64 (-1), .int .i64 f.typ, v]))).toArray 114 ∧ ReadsB w' (some ⟨b, o', none⟩) (bs.drop 12) ∧ Turns (· = p) w w' := by
  have lt := h.lt
  have h' := hide h
  have hr' := hide hr
  clear h hr
  go_enter Try.func63, Try.ntmps63
  go_wp2_with fail
  go_region_held3 (fun _ => True) (trivial) (first
    | (go_at_call 64; refine (take_law (h'.out.drew) (hr'.out.still (by repeat' (first | exact Turns.refl _ _ | assumption | exact Or.inl rfl | exact Or.inr (Nat.le_refl _) | apply Turns.alloc | apply Turns.drew | apply Turns.drewN | apply Turns.setCell | (apply Or.inr; simp; done) | (apply Or.inr; simp; omega) | exact fun _ hh => False.elim hh | exact fun _ hh => Or.inl hh | (intro i hi; right; (try simp only at hi); omega) | (intro i hi; right; simp at hi; omega) | refine Turns.step ?_ (by assumption) ?_))) hb 6 (by decide) (by omega) hc hm).mono ?_; rintro e w1 ⟨rfl, o1, h1, r1, k1⟩)
    | (refine step_copy_own rfl (.tmp 6) (.tmp 10) _ _ (by rfl) 5 Try.underlying22 Try.info5s p 1 6 6 ⟨b, o, none⟩ 6 c (by rfl) (by rfl) _ 114 h1 (six' bs 0) (by rfl) (six_src ((hr'.out.still ((Turns.refl nobody w).drew)).turns k1 (by rintro a ⟨⟩; exact hb)) (by omega)) (by simp [six']) (six_one _ _) ?_; intro w2 h2 k2)
    | fail)
  have h3 : Hid (Blk w2 p (.slice (some ⟨b, o1, none⟩) (bs.drop 6).length (c - 6) :: (six' bs 0 ++ [.int .u8 f.s.a0, .int .u8 f.s.a1, .int .u8 f.s.a2, .int .u8 f.s.a3, .int .u8 f.s.a4, .int .u8 f.s.a5, .int .i64 f.tag, .int .i64 f.typ, v])).toArray 114) := hide h2
  have k3 : Turns (· = p) w w2 := (((Turns.refl _ w).drew).trans k1).trans k2
  have r3 : Hid (ReadsB w2 (some ⟨b, o1, none⟩) (bs.drop 6)) := hide (r1.turns k2 (by rintro a ⟨⟩; exact hb))
  clear h1 r1 h2 k2 k1
  have l6 : (bs.drop 6).length = bs.length - 6 := List.length_drop
  replace l6 := hide l6
  go_wp2_with fail
  go_region_held3 (fun _ => True) (trivial) (first
    | (go_at_call 64; refine (take_law (h3.out.drew) (r3.out.still (by repeat' (first | exact Turns.refl _ _ | assumption | exact Or.inl rfl | exact Or.inr (Nat.le_refl _) | apply Turns.alloc | apply Turns.drew | apply Turns.drewN | apply Turns.setCell | (apply Or.inr; simp; done) | (apply Or.inr; simp; omega) | exact fun _ hh => False.elim hh | exact fun _ hh => Or.inl hh | (intro i hi; right; (try simp only at hi); omega) | (intro i hi; right; simp at hi; omega) | refine Turns.step ?_ (by assumption) ?_))) hb 6 (by decide) (by rw [l6.out]; omega) (by rw [l6.out]; omega) (by omega)).mono ?_; rintro e w4 ⟨rfl, o4, h4, r4, k4⟩)
    | (refine step_copy_own rfl (.tmp 16) (.tmp 20) _ _ (by rfl) 5 Try.underlying22 Try.info5s p 7 6 6 ⟨b, o1, none⟩ 6 (c - 6) (by rfl) (by rfl) _ 114 h4 (six' (bs.drop 6) 0) (by rfl) (six_src ((r3.out.still ((Turns.refl nobody w2).drew)).turns k4 (by rintro a ⟨⟩; exact hb)) (by rw [l6.out]; omega)) (by simp [six']) (six_one _ _) ?_; intro w5 h5 k5)
    | fail)
  have h6 : Blk w5 p (.slice (some ⟨b, o4, none⟩) ((bs.drop 6).drop 6).length (c - 6 - 6) :: (six' bs 0 ++ (six' (bs.drop 6) 0 ++ [.int .i64 f.tag, .int .i64 f.typ, v]))).toArray 114 := h5
  rw [List.drop_drop, six_drop, Nat.sub_sub] at h6
  have k6 : Turns (· = p) w w5 := ((k3.drew).trans k4).trans k5
  have r6 : ReadsB w5 (some ⟨b, o4, none⟩) (bs.drop 12) := by rw [List.drop_drop] at r4; exact r4.turns k5 (by rintro a ⟨⟩; exact hb)
  clear h5 k5 r4 k4 h4 k3
  have c13 := h6.cell 13
  have f13 := h6.frozen 13
  have lt5 := h6.lt
  replace h6 := hide h6
  replace r6 := hide r6
  go_wp2_with fail
  go_returns
  have k7 : Turns (· = p) w5 (w5.setCell ⟨p, 13, none⟩ (.int .i64 (-1))) := (by repeat' (first | exact Turns.refl _ _ | assumption | exact Or.inl rfl | exact Or.inr (Nat.le_refl _) | apply Turns.alloc | apply Turns.drew | apply Turns.drewN | apply Turns.setCell | (apply Or.inr; simp; done) | (apply Or.inr; simp; omega) | exact fun _ hh => False.elim hh | exact fun _ hh => Or.inl hh | (intro i hi; right; (try simp only at hi); omega) | (intro i hi; right; simp at hi; omega) | refine Turns.step ?_ (by assumption) ?_))
  exact ⟨rfl, o4, by simpa [six'] using h6.out.set 13 (.int .i64 (-1)), r6.out.turns k7 (by rintro a ⟨⟩; exact hb), k6.trans k7⟩

end Go.Proofs.Ytbiplmlkgbicnaa
