/- A slice that is handed in is no longer than its weight allows. Conditions: none. -/
import Derived.Test.YtdhifcjfkbidoaaOpens
import Derived.SizedLaws
import Derived.ChangeArms
namespace Go.Proofs.Ytdhifcjfkbidoaa
open Go.RowKit

theorem sized_len {H : Type} {enc : TypeId × Value → H} {P : Program} {W : World} {base : Nat} {spare : Nat → Bool} {held : Bool} {t e : TypeId} {a : Option Addr} {len cap : Nat} {d : DataW H} {ps : List MemPlace} {ts : List TypeId} {ds : List (DataW H)} {j : Nat}
    (hsz : (DataW.weightsEach P ts ds).all (· ≤ reachBytes) = true) (ht : ts[j]? = some t) (hd : ds[j]? = some d) (hu : P.underlying t = some (.slice e))
    (h : DataW.Trod enc P W base spare held t (.slice a len cap) d ps) : len * P.bytesOf e ≤ 140737488351232 := by
  obtain ⟨fuel, hf⟩ := h
  rcases DataW.trod_slice hu hf with ⟨hcs, _⟩ | ⟨a', l', c', elems, rest, m, hm, hcs, hx, _, _, _, hl, _⟩
  · simp [Value.cells] at hcs
    obtain ⟨rfl, rfl, rfl⟩ := hcs
    simp
  · simp [Value.cells] at hcs
    obtain ⟨rfl, rfl, rfl⟩ := hcs
    obtain ⟨hx, _⟩ := Prod.mk.inj hx
    subst hx
    have z := sized_slice hsz ht hd hu
    simp only [List.length_map] at z
    have : reachBytes = 140737488351232 := by decide
    rw [← this]
    refine Nat.le_trans (Nat.mul_le_mul_right _ ?_) z
    omega
end Go.Proofs.Ytdhifcjfkbidoaa
