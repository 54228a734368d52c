/- A frame that is handed in. -/
import Derived.Test.YtbiplmlkgbicnaaShown
set_option linter.unusedVariables false
namespace Go.Proofs.Ytbiplmlkgbicnaa
open Go.RowKit Go.Proofs.YtbiplmlkgbicnaaW.PrintWords

theorem Try.cells5 : Try.prog.cellsOf 5 = 1 := by kernel_rfl
theorem Try.cells3 : Try.prog.cellsOf 3 = 1 := by kernel_rfl
theorem Try.cells22 : Try.prog.cellsOf 22 = 1 := by kernel_rfl
theorem Try.cells27 : Try.prog.cellsOf 27 = 6 := by kernel_rfl
theorem Try.cells39 : Try.prog.cellsOf 39 = 15 := by kernel_rfl
theorem list6 {α : Type} {l : List α} (h : l.length = 6) : ∃ a b c d e f, l = [a, b, c, d, e, f] := by
  match l, h with
  | [a, b, c, d, e, f], _ => exact ⟨a, b, c, d, e, f, rfl⟩
theorem list15 {α : Type} {l : List α} (h : l.length = 15) : ∃ a b c d e f g i j k m n o p q, l = [a, b, c, d, e, f, g, i, j, k, m, n, o, p, q] := by
  match l, h with
  | [a, b, c, d, e, f, g, i, j, k, m, n, o, p, q], _ => exact ⟨a, b, c, d, e, f, g, i, j, k, m, n, o, p, q, rfl⟩
theorem arr_of {cs : Array Value} {l : List Value} (h : cs.toList = l) : cs = l.toArray := by rw [← h]

/-- An address that is handed in. -/
theorem open_addr {w : World} {n : Nat} {cs : List Value} (hf : Fits Try.prog w n 27 cs) : ∃ a : Ad, cs = [.int .u8 a.a0, .int .u8 a.a1, .int .u8 a.a2, .int .u8 a.a3, .int .u8 a.a4, .int .u8 a.a5] ∧ Bytes a.list := by
  obtain ⟨hl, h⟩ := hf.array Try.underlying27
  rw [Try.cells27] at hl
  obtain ⟨c0, c1, c2, c3, c4, c5, rfl⟩ := list6 hl
  rw [Try.cells5] at h
  have one : ∀ i, i < 6 → ∃ x : Int, ([c0, c1, c2, c3, c4, c5].drop (i * 1)).take 1 = [.int .u8 x] ∧ 0 ≤ x ∧ x ≤ 255 := by
    intro i hi
    obtain ⟨m, hx⟩ := h i hi
    obtain ⟨x, h1, h2⟩ := hx.int Try.underlying5
    exact ⟨x, h1, bounds_u8 h2⟩
  obtain ⟨x0, e0, b0⟩ := one 0 (by decide)
  obtain ⟨x1, e1, b1⟩ := one 1 (by decide)
  obtain ⟨x2, e2, b2⟩ := one 2 (by decide)
  obtain ⟨x3, e3, b3⟩ := one 3 (by decide)
  obtain ⟨x4, e4, b4⟩ := one 4 (by decide)
  obtain ⟨x5, e5, b5⟩ := one 5 (by decide)
  simp at e0 e1 e2 e3 e4 e5
  subst e0 e1 e2 e3 e4 e5
  refine ⟨⟨x0, x1, x2, x3, x4, x5⟩, rfl, ?_⟩
  intro x hx
  simp [Ad.list] at hx
  rcases hx with rfl | rfl | rfl | rfl | rfl | rfl <;> assumption

/-- A frame that is handed in. -/
theorem open_frame {w : World} {n : Nat} {cs : List Value} (hf : Fits Try.prog w n 39 cs) :
    ∃ (f : Frm) (A : Option Addr) (c : Nat), cs = #[.int .u8 f.d.a0, .int .u8 f.d.a1, .int .u8 f.d.a2, .int .u8 f.d.a3, .int .u8 f.d.a4, .int .u8 f.d.a5, .int .u8 f.s.a0, .int .u8 f.s.a1, .int .u8 f.s.a2, .int .u8 f.s.a3, .int .u8 f.s.a4, .int .u8 f.s.a5, .int .i64 f.tag, .int .i64 f.typ, .slice A f.data.length c].toList ∧ f.Ok ∧ ReadsB w A f.data ∧ f.data.length ≤ c ∧ c ≤ maxLen ∧ (-9223372036854775808 ≤ f.tag ∧ f.tag ≤ 9223372036854775807) ∧ (-9223372036854775808 ≤ f.typ ∧ f.typ ≤ 9223372036854775807) := by
  obtain ⟨hl, h⟩ := hf.struct Try.underlying39
  rw [Try.cells39] at hl
  obtain ⟨a0, a1, a2, a3, a4, a5, b0, b1, b2, b3, b4, b5, t, y, d, rfl⟩ := list15 hl
  obtain ⟨m0, f0⟩ := h 0 _ rfl
  obtain ⟨m1, f1⟩ := h 1 _ rfl
  obtain ⟨m2, f2⟩ := h 2 _ rfl
  obtain ⟨m3, f3⟩ := h 3 _ rfl
  obtain ⟨m4, f4⟩ := h 4 _ rfl
  simp [Try.cells27, Try.cells3, Try.cells22] at f0 f1 f2 f3 f4
  obtain ⟨p, hp, bp⟩ := open_addr f0
  obtain ⟨q, hq, bq⟩ := open_addr f1
  obtain ⟨T, hT, wT⟩ := f2.int Try.underlying3
  obtain ⟨Y, hY, wY⟩ := f3.int Try.underlying3
  obtain ⟨A, len, cap, hd, _⟩ := f4.slice Try.underlying22 (by rw [Try.cells5]; decide)
  simp at hp hq hT hY hd
  obtain ⟨rfl, rfl, rfl, rfl, rfl, rfl⟩ := hp
  obtain ⟨rfl, rfl, rfl, rfl, rfl, rfl⟩ := hq
  subst hT hY hd
  obtain ⟨bs, hb, hr, hB, h1, h2⟩ := open_bytes f4 Try.underlying22 Try.underlying5 Try.cells5
  subst hb
  exact ⟨⟨p, q, T, Y, bs⟩, A, cap, rfl, ⟨bp, bq, hB⟩, hr, h1, h2, bounds_i64 wT, bounds_i64 wY⟩

end Go.Proofs.Ytbiplmlkgbicnaa
