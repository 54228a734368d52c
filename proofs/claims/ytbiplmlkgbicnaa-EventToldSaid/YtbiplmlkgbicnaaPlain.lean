/- A frame, built and read, in plain lists: no program in sight. -/
namespace Go.Proofs.Ytbiplmlkgbicnaa

structure Ad where
  a0 : Int
  a1 : Int
  a2 : Int
  a3 : Int
  a4 : Int
  a5 : Int
deriving DecidableEq
def Ad.list (a : Ad) : List Int := [a.a0, a.a1, a.a2, a.a3, a.a4, a.a5]
structure Frm where
  d : Ad
  s : Ad
  tag : Int
  typ : Int
  data : List Int
deriving DecidableEq
def Frm.none : Frm := ⟨⟨0, 0, 0, 0, 0, 0⟩, ⟨0, 0, 0, 0, 0, 0⟩, 0, 0, []⟩
def two (n : Int) : List Int := [n / 256, n % 256]
def TypOk (t n : Int) : Prop := t = n ∨ (1536 ≤ t ∧ t ≤ 65535 ∧ t ≠ 33024)
instance (t n : Int) : Decidable (TypOk t n) := by unfold TypOk; infer_instance
/-- A frame's error. -/
def bad (f : Frm) : Int := if f.tag < -1 ∨ 65535 < f.tag ∨ ¬ TypOk f.typ f.data.length then 1 else if 1500 < f.data.length then 9 else 0
def tagBytes (t : Int) : List Int := if 0 ≤ t then [129, 0] ++ two t else []
def pad (l : List Int) : List Int := l ++ List.replicate (60 - l.length) 0
def headOf (f : Frm) : List Int := f.d.list ++ f.s.list ++ tagBytes f.tag ++ two f.typ
/-- A frame as bytes. -/
def built (f : Frm) : List Int := pad (headOf f ++ f.data)

def nth (bs : List Int) (i : Nat) : Int := bs.getD i 0
def tagged (bs : List Int) : Bool := decide (14 ≤ bs.length) && (nth bs 12 == 129 && nth bs 13 == 0)
def num (bs : List Int) (i : Nat) : Int := nth bs i * 256 + nth bs (i + 1)
def adOf (bs : List Int) (i : Nat) : Ad := ⟨nth bs i, nth bs (i + 1), nth bs (i + 2), nth bs (i + 3), nth bs (i + 4), nth bs (i + 5)⟩
def atOf (bs : List Int) : Nat := if tagged bs = true then 16 else 12
def tagOf (bs : List Int) : Int := if tagged bs = true then num bs 14 else -1
def typOf (bs : List Int) : Int := num bs (atOf bs)
def restOf (bs : List Int) : List Int := bs.drop (atOf bs + 2)
/-- Whether bytes are a frame: the error. -/
def parseE (bs : List Int) : Int :=
  if bs.length < atOf bs + 2 then 4
  else if (1501 ≤ typOf bs ∧ typOf bs ≤ 1535) ∨ typOf bs = 33024 ∨ (typOf bs ≤ 1500 ∧ ((restOf bs).length : Int) < typOf bs) then 5
  else if 1500 < typOf bs ∧ 1500 < (restOf bs).length then 9 else 0
def dataOf (bs : List Int) : List Int := if typOf bs ≤ 1500 then (restOf bs).take (typOf bs).toNat else restOf bs
def whole (bs : List Int) : Frm := ⟨adOf bs 0, adOf bs 6, tagOf bs, typOf bs, dataOf bs⟩
/-- Bytes as a frame. -/
def parseF (bs : List Int) : Frm := if parseE bs = 0 then whole bs else Frm.none
def headLen (t : Int) : Nat := if 0 ≤ t then 18 else 14
/-- A frame as it comes. -/
def normF (f : Frm) : Frm := if 1536 ≤ f.typ then { f with data := f.data ++ List.replicate (60 - (headLen f.tag + f.data.length)) 0 } else f
def sizeOf' (bs : List Int) : Int := if bs.length < 60 then -1 else if (if tagged bs = true then 1518 else 1514) < bs.length then 1 else 0

def Byte (x : Int) : Prop := 0 ≤ x ∧ x ≤ 255
def Bytes (bs : List Int) : Prop := ∀ x ∈ bs, 0 ≤ x ∧ x ≤ 255
structure Frm.Ok (f : Frm) : Prop where
  d : Bytes f.d.list
  s : Bytes f.s.list
  data : Bytes f.data

theorem Bytes.nil : Bytes [] := fun x hx => by cases hx
theorem Bytes.append {a b : List Int} (ha : Bytes a) (hb : Bytes b) : Bytes (a ++ b) := fun x hx => (List.mem_append.1 hx).elim (ha x) (hb x)
theorem Bytes.cons {x : Int} {a : List Int} (hx : 0 ≤ x ∧ x ≤ 255) (ha : Bytes a) : Bytes (x :: a) := fun y hy => by
  rcases List.mem_cons.1 hy with rfl | hy
  · exact hx
  · exact ha y hy
theorem Bytes.drop {a : List Int} (ha : Bytes a) (k : Nat) : Bytes (a.drop k) := fun x hx => ha x (List.mem_of_mem_drop hx)
theorem Bytes.take {a : List Int} (ha : Bytes a) (k : Nat) : Bytes (a.take k) := fun x hx => ha x (List.mem_of_mem_take hx)
theorem Bytes.zeros (k : Nat) : Bytes (List.replicate k 0) := fun x hx => by rw [List.eq_of_mem_replicate hx]; omega
theorem Bytes.getD {a : List Int} (ha : Bytes a) (i : Nat) : 0 ≤ a.getD i 0 ∧ a.getD i 0 ≤ 255 := by
  by_cases h : i < a.length
  · have : a.getD i 0 = a[i] := by simp [List.getD, h]
    rw [this]; exact ha _ (List.getElem_mem h)
  · have : a.getD i 0 = 0 := by simp [List.getD, List.getElem?_eq_none (Nat.le_of_not_lt h)]
    rw [this]; omega
theorem Bytes.at_ {a : List Int} (ha : Bytes a) (i : Nat) : 0 ≤ nth a i ∧ nth a i ≤ 255 := ha.getD i
theorem num_bounds {bs : List Int} (h : Bytes bs) (i : Nat) : 0 ≤ num bs i ∧ num bs i ≤ 65535 := by
  have h1 := h.at_ i
  have h2 := h.at_ (i + 1)
  unfold num
  omega
theorem typOf_bounds {bs : List Int} (h : Bytes bs) : 0 ≤ typOf bs ∧ typOf bs ≤ 65535 := num_bounds h _
theorem bytes_two {n : Int} (h : 0 ≤ n ∧ n ≤ 65535) : Bytes (two n) := by
  intro x hx
  simp [two] at hx
  rcases hx with rfl | rfl <;> omega
theorem ad_byte {a : Ad} (h : Bytes a.list) : (0 ≤ a.a0 ∧ a.a0 ≤ 255) ∧ (0 ≤ a.a1 ∧ a.a1 ≤ 255) ∧ (0 ≤ a.a2 ∧ a.a2 ≤ 255) ∧ (0 ≤ a.a3 ∧ a.a3 ≤ 255) ∧ (0 ≤ a.a4 ∧ a.a4 ≤ 255) ∧ (0 ≤ a.a5 ∧ a.a5 ≤ 255) :=
  ⟨h _ (by simp [Ad.list]), h _ (by simp [Ad.list]), h _ (by simp [Ad.list]), h _ (by simp [Ad.list]), h _ (by simp [Ad.list]), h _ (by simp [Ad.list])⟩

/-- What a frame without error is. -/
theorem bad_ok {f : Frm} (h : bad f = 0) : -1 ≤ f.tag ∧ f.tag ≤ 65535 ∧ TypOk f.typ f.data.length ∧ f.data.length ≤ 1500 ∧ 0 ≤ f.typ ∧ f.typ ≤ 65535 := by
  unfold bad at h
  split at h
  · omega
  · rename_i h1
    split at h
    · omega
    · rename_i h2
      have h3 : TypOk f.typ f.data.length := by
        by_cases h3 : TypOk f.typ f.data.length
        · exact h3
        · exact absurd (Or.inr (Or.inr h3)) h1
      have h4 := h3
      unfold TypOk at h4
      exact ⟨by omega, by omega, h3, by omega, by omega, by omega⟩
theorem ok_bad {f : Frm} (h1 : -1 ≤ f.tag) (h2 : f.tag ≤ 65535) (h3 : TypOk f.typ f.data.length) (h4 : f.data.length ≤ 1500) : bad f = 0 := by
  unfold bad
  rw [if_neg (by rintro (h | h | h); omega; omega; exact h h3), if_neg (by omega)]
theorem bad_cases (f : Frm) : bad f = 0 ∨ bad f = 1 ∨ bad f = 9 := by
  unfold bad
  split
  · exact .inr (.inl rfl)
  · split
    · exact .inr (.inr rfl)
    · exact .inl rfl

theorem built_un {f : Frm} (h : f.tag < 0) : built f = f.d.a0 :: f.d.a1 :: f.d.a2 :: f.d.a3 :: f.d.a4 :: f.d.a5 :: f.s.a0 :: f.s.a1 :: f.s.a2 :: f.s.a3 :: f.s.a4 :: f.s.a5 :: f.typ / 256 :: f.typ % 256 :: (f.data ++ List.replicate (60 - (14 + f.data.length)) 0) := by
  have e : 60 - (14 + f.data.length) = 46 - f.data.length := by omega
  unfold built pad headOf tagBytes
  rw [if_neg (by omega)]
  simp [two, Ad.list, e]
theorem built_tag {f : Frm} (h : 0 ≤ f.tag) : built f = f.d.a0 :: f.d.a1 :: f.d.a2 :: f.d.a3 :: f.d.a4 :: f.d.a5 :: f.s.a0 :: f.s.a1 :: f.s.a2 :: f.s.a3 :: f.s.a4 :: f.s.a5 :: 129 :: 0 :: f.tag / 256 :: f.tag % 256 :: f.typ / 256 :: f.typ % 256 :: (f.data ++ List.replicate (60 - (18 + f.data.length)) 0) := by
  have e : 60 - (18 + f.data.length) = 42 - f.data.length := by omega
  unfold built pad headOf tagBytes
  rw [if_pos h]
  simp [two, Ad.list, e]
theorem built_length (f : Frm) : (built f).length = max 60 (headLen f.tag + f.data.length) := by
  unfold headLen
  by_cases h : 0 ≤ f.tag
  · rw [built_tag h, if_pos h]
    simp
    omega
  · rw [built_un (by omega), if_neg h]
    simp
    omega
theorem built_bytes {f : Frm} (hf : f.Ok) (hb : bad f = 0) : Bytes (built f) := by
  obtain ⟨h1, h2, h3, h4, h5, h6⟩ := bad_ok hb
  unfold built pad headOf
  refine ((((hf.d.append hf.s).append ?_).append (bytes_two ⟨h5, h6⟩)).append hf.data).append (Bytes.zeros _)
  unfold tagBytes
  split
  · exact (Bytes.cons (by omega) (Bytes.cons (by omega) Bytes.nil)).append (bytes_two ⟨by assumption, h2⟩)
  · exact Bytes.nil
theorem tagged_built {f : Frm} (hb : bad f = 0) : tagged (built f) = decide (0 ≤ f.tag) := by
  obtain ⟨h1, h2, h3, h4, h5, h6⟩ := bad_ok hb
  by_cases h : 0 ≤ f.tag
  · rw [built_tag h]
    simp [tagged, nth, h]
  · rw [built_un (by omega)]
    unfold TypOk at h3
    have e : (f.typ / 256 == (129 : Int) && f.typ % 256 == (0 : Int)) = false := by
      rw [Bool.and_eq_false_iff]
      by_cases e1 : f.typ / 256 = 129
      · right
        rw [beq_eq_false_iff_ne]
        intro e2
        omega
      · left
        rw [beq_eq_false_iff_ne]
        exact e1
    simp [tagged, nth, h] at e ⊢
    exact e

/-- What was built is read as its Norm. -/
theorem parse_built {f : Frm} (hb : bad f = 0) : parseE (built f) = 0 ∧ parseF (built f) = normF f := by
  obtain ⟨h1, h2, h3, h4, h5, h6⟩ := bad_ok hb
  have ht := tagged_built hb
  have hl := built_length f
  have key : parseE (built f) = 0 ∧ whole (built f) = normF f := by
    by_cases h : 0 ≤ f.tag
    · have hat : atOf (built f) = 16 := by simp [atOf, ht, h]
      have htag : tagOf (built f) = f.tag := by
        simp only [tagOf, ht, h, decide_true, if_true, num]
        rw [built_tag h]
        simp [nth]
        omega
      have htyp : typOf (built f) = f.typ := by
        unfold typOf num
        rw [hat, built_tag h]
        simp [nth]
        omega
      have hrest : restOf (built f) = f.data ++ List.replicate (60 - (18 + f.data.length)) 0 := by
        unfold restOf
        rw [hat, built_tag h]
        rfl
      have hlen : ((restOf (built f)).length : Int) = max 42 (f.data.length : Int) := by
        rw [hrest]
        simp
        omega
      have had : adOf (built f) 0 = f.d ∧ adOf (built f) 6 = f.s := by
        rw [built_tag h]
        exact ⟨rfl, rfl⟩
      have hhl : headLen f.tag = 18 := by simp [headLen, h]
      unfold TypOk at h3
      refine ⟨?_, ?_⟩
      · unfold parseE
        rw [hat, htyp, if_neg (by omega), if_neg (by omega), if_neg (by omega)]
      · unfold whole dataOf normF
        rw [htyp, htag, had.1, had.2, hrest, hhl]
        by_cases h7 : 1536 ≤ f.typ
        · rw [if_neg (by omega), if_pos h7]
        · rw [if_pos (by omega), if_neg h7, List.take_append_of_le_length (by omega), List.take_of_length_le (by omega)]
    · have hat : atOf (built f) = 12 := by simp [atOf, ht, h]
      have htag : tagOf (built f) = f.tag := by
        simp only [tagOf, ht, h, decide_false]
        rw [if_neg (by decide)]
        omega
      have htyp : typOf (built f) = f.typ := by
        unfold typOf num
        rw [hat, built_un (by omega)]
        simp [nth]
        omega
      have hrest : restOf (built f) = f.data ++ List.replicate (60 - (14 + f.data.length)) 0 := by
        unfold restOf
        rw [hat, built_un (by omega)]
        rfl
      have hlen : ((restOf (built f)).length : Int) = max 46 (f.data.length : Int) := by
        rw [hrest]
        simp
        omega
      have had : adOf (built f) 0 = f.d ∧ adOf (built f) 6 = f.s := by
        rw [built_un (by omega)]
        exact ⟨rfl, rfl⟩
      have hhl : headLen f.tag = 14 := by simp [headLen, h]
      unfold TypOk at h3
      refine ⟨?_, ?_⟩
      · unfold parseE
        rw [hat, htyp, if_neg (by omega), if_neg (by omega), if_neg (by omega)]
      · unfold whole dataOf normF
        rw [htyp, htag, had.1, had.2, hrest, hhl]
        by_cases h7 : 1536 ≤ f.typ
        · rw [if_neg (by omega), if_pos h7]
        · rw [if_pos (by omega), if_neg h7, List.take_append_of_le_length (by omega), List.take_of_length_le (by omega)]
  refine ⟨key.1, ?_⟩
  unfold parseF
  rw [if_pos key.1, key.2]

theorem normF_tag (f : Frm) : (normF f).tag = f.tag := by unfold normF; split <;> rfl
theorem normF_typ (f : Frm) : (normF f).typ = f.typ := by unfold normF; split <;> rfl
theorem normF_length (f : Frm) : (normF f).data.length = if 1536 ≤ f.typ then max (60 - headLen f.tag) f.data.length else f.data.length := by
  unfold normF
  have : headLen f.tag ≤ 18 := by unfold headLen; split <;> omega
  split
  · simp; omega
  · rfl
theorem normF_bad {f : Frm} (hb : bad f = 0) : bad (normF f) = 0 := by
  obtain ⟨h1, h2, h3, h4, h5, h6⟩ := bad_ok hb
  have hl := normF_length f
  refine ok_bad (by rw [normF_tag]; exact h1) (by rw [normF_tag]; exact h2) ?_ ?_
  · rw [normF_typ]
    unfold TypOk at h3 ⊢
    by_cases h7 : 1536 ≤ f.typ
    · omega
    · rw [if_neg h7] at hl; omega
  · have : headLen f.tag ≤ 18 := by unfold headLen; split <;> omega
    split at hl <;> omega
theorem built_norm {f : Frm} : built (normF f) = built f := by
  by_cases h7 : 1536 ≤ f.typ
  · have e : normF f = { f with data := f.data ++ List.replicate (60 - (headLen f.tag + f.data.length)) 0 } := by unfold normF; rw [if_pos h7]
    by_cases h : 0 ≤ f.tag
    · have hhl : headLen f.tag = 18 := by simp [headLen, h]
      rw [hhl] at e
      rw [e, built_tag (f := f) h]
      rw [built_tag (f := { f with data := f.data ++ List.replicate (60 - (18 + f.data.length)) 0 }) h]
      have e2 : 60 - (18 + (f.data.length + (60 - (18 + f.data.length)))) = 0 := by omega
      simp
      omega
    · have hhl : headLen f.tag = 14 := by simp [headLen, h]
      rw [hhl] at e
      rw [e, built_un (f := f) (by omega)]
      rw [built_un (f := { f with data := f.data ++ List.replicate (60 - (14 + f.data.length)) 0 }) (by simpa using h)]
      simp
      omega
  · unfold normF; rw [if_neg h7]
theorem normF_norm {f : Frm} (hb : bad f = 0) : normF (normF f) = normF f := by
  have h1 := (parse_built hb).2
  have h2 := (parse_built (normF_bad hb)).2
  rw [built_norm, h1] at h2
  exact h2.symm
theorem normF_ok {f : Frm} (h : f.Ok) : (normF f).Ok := by
  unfold normF
  split
  · exact ⟨h.d, h.s, h.data.append (Bytes.zeros _)⟩
  · exact h
theorem built_inj {f g : Frm} (hf : bad f = 0) (hg : bad g = 0) : built f = built g ↔ normF f = normF g := by
  constructor
  · intro e
    rw [← (parse_built hf).2, ← (parse_built hg).2, e]
  · intro e
    rw [← built_norm (f := f), ← built_norm (f := g), e]
theorem size_built {f : Frm} (hb : bad f = 0) : sizeOf' (built f) = 0 := by
  obtain ⟨h1, h2, h3, h4, h5, h6⟩ := bad_ok hb
  have hl := built_length f
  unfold sizeOf'
  rw [tagged_built hb]
  unfold headLen at hl
  by_cases h : 0 ≤ f.tag
  · rw [if_pos h] at hl
    rw [if_neg (by omega)]
    simp only [h, decide_true, if_true]
    rw [if_neg (by omega)]
  · rw [if_neg h] at hl
    rw [if_neg (by omega)]
    simp only [h, decide_false]
    rw [if_neg (by simp; omega)]
/-- What is cut within its head is no frame. -/
theorem parse_short {f : Frm} (hb : bad f = 0) {k : Nat} (hk : k < headLen f.tag) : parseE ((built f).take k) = 4 := by
  have hl := built_length f
  have hlen : ((built f).take k).length = k := by
    rw [List.length_take]
    have : headLen f.tag ≤ 18 := by unfold headLen; split <;> omega
    omega
  unfold parseE
  rw [if_pos]
  rw [hlen]
  unfold headLen at hk
  by_cases h : 0 ≤ f.tag
  · rw [if_pos h] at hk
    by_cases h14 : k < 14
    · have : tagged ((built f).take k) = false := by
        unfold tagged
        rw [hlen]
        simp [nth]
        omega
      simp [atOf, this]
      omega
    · have : tagged ((built f).take k) = true := by
        have h1 := tagged_built hb
        simp only [h, decide_true] at h1
        unfold tagged at h1 ⊢
        rw [hlen]
        have e : ∀ i, i < 14 → nth ((built f).take k) i = nth (built f) i := by
          intro i hi
          simp only [nth, List.getD, List.getElem?_take]
          rw [if_pos (by omega)]
        rw [e 12 (by omega), e 13 (by omega)]
        simp only [Bool.and_eq_true] at h1 ⊢
        exact ⟨by simp; omega, h1.2⟩
      simp [atOf, this]
      omega
  · rw [if_neg h] at hk
    have := hk
    unfold atOf
    split <;> omega
theorem parseF_err {bs : List Int} (h : parseE bs ≠ 0) : parseF bs = Frm.none := by unfold parseF; rw [if_neg h]
theorem whole_ok {bs : List Int} (h : Bytes bs) : (whole bs).Ok := by
  refine ⟨?_, ?_, ?_⟩
  · intro x hx
    simp [whole, Ad.list, adOf] at hx
    rcases hx with rfl | rfl | rfl | rfl | rfl | rfl <;> exact h.getD _
  · intro x hx
    simp [whole, Ad.list, adOf] at hx
    rcases hx with rfl | rfl | rfl | rfl | rfl | rfl <;> exact h.getD _
  · show Bytes (dataOf bs)
    unfold dataOf
    split
    · exact (h.drop _).take _
    · exact h.drop _
theorem parseE_ok {bs : List Int} (h : parseE bs = 0) : atOf bs + 2 ≤ bs.length ∧ ¬(1501 ≤ typOf bs ∧ typOf bs ≤ 1535) ∧ typOf bs ≠ 33024 ∧ (typOf bs ≤ 1500 → typOf bs ≤ (restOf bs).length) ∧ (1500 < typOf bs → (restOf bs).length ≤ 1500) := by
  unfold parseE at h
  split at h
  · omega
  split at h
  · omega
  split at h
  · omega
  · omega
theorem whole_bad {bs : List Int} (hB : Bytes bs) (h : parseE bs = 0) : bad (whole bs) = 0 := by
  obtain ⟨h1, h2, h3, h4, h5⟩ := parseE_ok h
  have ht := typOf_bounds hB
  have htag : -1 ≤ tagOf bs ∧ tagOf bs ≤ 65535 := by
    unfold tagOf
    have := num_bounds hB 14
    split <;> omega
  refine ok_bad htag.1 htag.2 ?_ ?_
  · show TypOk (typOf bs) ((dataOf bs).length : Nat)
    unfold TypOk dataOf
    by_cases h7 : typOf bs ≤ 1500
    · left
      rw [if_pos h7, List.length_take]
      have := h4 h7
      omega
    · right; omega
  · show (dataOf bs).length ≤ 1500
    unfold dataOf
    by_cases h7 : typOf bs ≤ 1500
    · rw [if_pos h7, List.length_take]; omega
    · rw [if_neg h7]; exact h5 (by omega)

end Go.Proofs.Ytbiplmlkgbicnaa
