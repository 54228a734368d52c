/- The kind of an event; an event's frame; the example; the walk of 'EventNobody'. -/
import Derived.Test.YtbiplmlkgbicnaaEvent
set_option linter.unusedVariables false
namespace Go.Proofs.Ytbiplmlkgbicnaa
open Go.RowKit Go.Proofs.YtbiplmlkgbicnaaW.PrintWords

set_option maxHeartbeats 1000000 in
theorem kind_no (A : Option Addr) (c : Nat) (bs : List Int) (w : World) (hr : ReadsB w A bs) (hB : Bytes bs) (hc : bs.length ≤ c) (hm : c ≤ maxLen) {er : Int} {f : Frm} (he : parseE bs = er) (hf : parseF bs = f) (hd : Bytes f.data) (hv : isEv er f = false) :
    Calls Try.prog 23 #[.slice A bs.length c] w fun e w' => e = .returned (.tuple #[.int .i64 0, .int .i64 0, .bool false]) ∧ Turns nobody w w' := by
  have h := read_law A c bs w hr hB hc hm he hf hd
  rw [hv] at h
  replace h := hide h
  go_enter Try.func23, Try.ntmps23
  go_wp2_with fail
  refine (h.out).mono ?_
  rintro e w1 ⟨X, k, rfl, o1, k1⟩
  go_wp2_with fail
  go_returns
  exact ⟨rfl, (by repeat' (first | exact Turns.refl _ _ | assumption | exact Or.inl rfl | exact Or.inr (Nat.le_refl _) | apply Turns.alloc | apply Turns.drew | apply Turns.drewN | apply Turns.setCell | (apply Or.inr; simp; done) | (apply Or.inr; simp; omega) | exact fun _ hh => False.elim hh | exact fun _ hh => Or.inl hh | (intro i hi; right; (try simp only at hi); omega) | (intro i hi; right; simp at hi; omega) | refine Turns.step ?_ (by assumption) ?_))⟩
set_option maxHeartbeats 1000000 in
theorem kind_yes (A : Option Addr) (c : Nat) (bs : List Int) (w : World) (hr : ReadsB w A bs) (hB : Bytes bs) (hc : bs.length ≤ c) (hm : c ≤ maxLen) {er : Int} {f : Frm} (he : parseE bs = er) (hf : parseF bs = f) (hd : Bytes f.data) (hv : isEv er f = true) :
    Calls Try.prog 23 #[.slice A bs.length c] w fun e w' => e = .returned (.tuple #[.int .i64 (nth f.data 0 % 16), .int .i64 (nth f.data 30 * 256 + nth f.data 31), .bool true]) ∧ Turns nobody w w' := by
  have h := read_law A c bs w hr hB hc hm he hf hd
  obtain ⟨_, _, h3, _, _⟩ := isEv_true hv
  rw [hv] at h
  replace h := hide h
  have x0 := hd.at_ 0
  have x1 := hd.at_ 30
  have x2 := hd.at_ 31
  have a0 := and15 _ x0
  have i0 : (0 : Int) < (f.data.length : Int) := by omega
  have i1 : (30 : Int) < (f.data.length : Int) := by omega
  have i2 : (31 : Int) < (f.data.length : Int) := by omega
  have y0 : 0 ≤ nth f.data 0 % 16 ∧ nth f.data 0 % 16 ≤ 15 := by omega
  go_enter Try.func23, Try.ntmps23
  go_wp2_with fail
  refine (h.out).mono ?_
  rintro e w1 ⟨X, k, rfl, o1, k1⟩
  obtain ⟨b, o, rfl, lt, hcell⟩ := o1.reads.nth (by omega)
  have c0 := hcell 0 (by omega)
  have c1 := hcell 30 (by omega)
  have c2 := hcell 31 (by omega)
  rw [Nat.add_zero] at c0
  clear hcell
  go_wp2_with fail
  go_quiet (fail)
  go_wp2_with fail
  go_returns
  rw [or_bytes _ _ x1 x2]
  exact ⟨rfl, (k1.alloc _).drewN nq⟩

theorem len0 (w : World) : Calls Try.prog 49 #[.pointer none] w fun e w' => e = .returned (.int .i64 0) ∧ Turns nobody w w' := by
  go_enter Try.func49, Try.ntmps49
  go_wp2
  go_returns
  exact ⟨rfl, (by repeat' (first | exact Turns.refl _ _ | assumption | exact Or.inl rfl | exact Or.inr (Nat.le_refl _) | apply Turns.alloc | apply Turns.drew | apply Turns.drewN | apply Turns.setCell | (apply Or.inr; simp; done) | (apply Or.inr; simp; omega) | exact fun _ hh => False.elim hh | exact fun _ hh => Or.inl hh | (intro i hi; right; (try simp only at hi); omega) | (intro i hi; right; simp at hi; omega) | refine Turns.step ?_ (by assumption) ?_))⟩
theorem lost0 (w : World) : Calls Try.prog 50 #[.pointer none] w fun e w' => e = .returned (.int .u32 0) ∧ Turns nobody w w' := by
  go_enter Try.func50, Try.ntmps50
  go_wp2
  go_returns
  exact ⟨rfl, (by repeat' (first | exact Turns.refl _ _ | assumption | exact Or.inl rfl | exact Or.inr (Nat.le_refl _) | apply Turns.alloc | apply Turns.drew | apply Turns.drewN | apply Turns.setCell | (apply Or.inr; simp; done) | (apply Or.inr; simp; omega) | exact fun _ hh => False.elim hh | exact fun _ hh => Or.inl hh | (intro i hi; right; (try simp only at hi); omega) | (intro i hi; right; simp at hi; omega) | refine Turns.step ?_ (by assumption) ?_))⟩

/-- An event's frame. -/
def evD (kind seq : Int) : List Int := [kind, 2] ++ List.replicate 28 0 ++ [seq / 256, seq % 256] ++ List.replicate 12 0
def evF (kind seq tag : Int) (src : Ad) : Frm := ⟨⟨0, 0, 0, 0, 0, 0⟩, src, tag, 35063, evD kind seq⟩
theorem evD_length (kind seq : Int) : (evD kind seq).length = 44 := rfl
theorem evF_bad (kind seq : Int) {tag : Int} (src : Ad) (h0 : -1 ≤ tag) (h1 : tag ≤ 65535) : bad (evF kind seq tag src) = 0 :=
  ok_bad h0 h1 (.inr (by show 1536 ≤ (35063 : Int) ∧ (35063 : Int) ≤ 65535 ∧ (35063 : Int) ≠ 33024; decide)) (by show (44 : Nat) ≤ 1500; decide)
theorem evD_bytes {kind seq : Int} (hk : 0 ≤ kind ∧ kind ≤ 255) (hs : 0 ≤ seq ∧ seq ≤ 65535) : Bytes (evD kind seq) := by
  refine Bytes.append (Bytes.append (Bytes.append (Bytes.cons hk (Bytes.cons (by omega) Bytes.nil)) (Bytes.zeros _)) (Bytes.cons (by omega) (Bytes.cons (by omega) Bytes.nil))) (Bytes.zeros _)
theorem evF_ok {kind seq : Int} (tag : Int) {src : Ad} (hk : 0 ≤ kind ∧ kind ≤ 255) (hs : 0 ≤ seq ∧ seq ≤ 65535) (h : Bytes src.list) : (evF kind seq tag src).Ok :=
  ⟨by simp [Bytes, evF, Ad.list], h, evD_bytes hk hs⟩
/-- What an event's frame is read as. -/
theorem ev_read {kind seq tag : Int} {src : Ad} (hk : 0 ≤ kind ∧ kind ≤ 255) (hk3 : kind % 16 ≤ 3) (hs : 0 ≤ seq ∧ seq ≤ 65535) (h0 : -1 ≤ tag) (h1 : tag ≤ 65535) (h : Bytes src.list) {bs : List Int} (eb : built (evF kind seq tag src) = bs) :
    parseE bs = 0 ∧ parseF bs = normF (evF kind seq tag src) ∧ Bytes bs ∧ 60 ≤ bs.length ∧ isEv 0 (normF (evF kind seq tag src)) = true ∧ Bytes (normF (evF kind seq tag src)).data ∧
      nth (normF (evF kind seq tag src)).data 0 = kind ∧ nth (normF (evF kind seq tag src)).data 30 * 256 + nth (normF (evF kind seq tag src)).data 31 = seq := by
  have hb := evF_bad kind seq src h0 h1
  have en : (normF (evF kind seq tag src)).data = evD kind seq ++ List.replicate (60 - (headLen tag + 44)) 0 := rfl
  have e0 : ∀ l, nth (evD kind seq ++ l) 0 = kind := fun l => rfl
  have e1 : ∀ l, nth (evD kind seq ++ l) 1 = 2 := fun l => rfl
  have e2 : ∀ l, nth (evD kind seq ++ l) 30 = seq / 256 := fun l => rfl
  have e3 : ∀ l, nth (evD kind seq ++ l) 31 = seq % 256 := fun l => rfl
  refine ⟨eb ▸ (parse_built hb).1, eb ▸ (parse_built hb).2, eb ▸ built_bytes (evF_ok tag hk hs h) hb, by rw [← eb, built_length]; omega, ?_, ?_, ?_, ?_⟩
  · have ey : (normF (evF kind seq tag src)).typ = 35063 := rfl
    simp [isEv, ey, en, e0, e1, hk3]
    rw [evD_length]
    omega
  · rw [en]
    exact (evD_bytes hk hs).append (Bytes.zeros _)
  · rw [en, e0]
  · rw [en, e2, e3]; omega

end Go.Proofs.Ytbiplmlkgbicnaa
