/-
  No cell of these rows narrows 'for every input' (looked for: loops, veiled, ifaces, maps, wideKeys, modest, calm, conditions, laid).
  DERIVED. THE GIVEN ROWS OF THIS SEAT. 7 by the template 'for every input the law returns true; each argument reads behind the call as it read before'; 0 by the template 'total and deterministic' (their statements: YtgidfnmblcjoiaaTotals.lean).
  GIVEN WITH THE SEED: the statements are not yours to turn. If you find one false, say at which input.
  Laid BY PROGRAM, IN A SANDBOX (cutbox-rows.mjs): the forced cells as the released guide's own fill.sh prints them over the translation 55425f3cfc0b85aa… (all of the seat's roots in one cut). By AI agents, Wed Nov 11 2026. No macro, syntax, notation, axiom, sorry.
-/
import Derived.Test.YtgidfnmblcjoiaaChecked
import GoSem.Claim
import GoSem.ClaimJoined
import GoSem.ClaimMapViews
import Derived.JoinedTies
import Derived.KernelRfl
namespace Go.Proofs.Ytgidfnmblcjoiaa
/- THE CELL 'sum', in the pinned program and in every row, IS THE sha256 OF THE DUMP (.gsa) THAT YtgidfnmblcjoiaaProg.lean LOADS. Nothing in Lean hashes anything: it is a label: what it is worth is what the hold of that sum in a sandbox is worth. -/
noncomputable def Try.pinned : Pinned := { name := "ytgidfnmblcjoiaa", sum := "55425f3cfc0b85aadc47057dc4c2cd6d41e2b12cf5e1c10c17468caf7752f472", checked := Try.checked }
namespace Rows
def none {H : Type} : Left H := { results := [], args := [] }

/-- 'snubberlaw14.ClockBack': WHATEVER THE INPUT: true; the input reads as it did. -/
def clockBackSpec : ChangeSpec := { name := "clockBack", fn := fun _ => fun
  | [d1, d2, d3] => { results := [.lit (.bool true)], args := [d1, d2, d3] }
  | _ => none }
def clockBackRow : OpenClaim := { program := "ytgidfnmblcjoiaa", sum := "55425f3cfc0b85aadc47057dc4c2cd6d41e2b12cf5e1c10c17468caf7752f472", func := "snubber/snubberlaw14.ClockBack", spec := "clockBack", apart := false }
def ClockBackSaid : Prop := clockBackRow.holds Try.pinned (OpenSpec.ofChange clockBackSpec)

/-- ITS FALSE NEIGHBOUR: 'it returns false'. Refute it at one input. -/
def clockBackWrong : ChangeSpec := { name := "clockBack", fn := fun _ => fun
  | [d1, d2, d3] => { results := [.lit (.bool false)], args := [d1, d2, d3] }
  | _ => none }
def ClockBackWrongFalsely : Prop := clockBackRow.holds Try.pinned (OpenSpec.ofChange clockBackWrong)

/-- 'snubberlaw14.ClockOrder': WHATEVER THE INPUT: true; the input reads as it did. -/
def clockOrderSpec : ChangeSpec := { name := "clockOrder", fn := fun _ => fun
  | [d1, d2, d3] => { results := [.lit (.bool true)], args := [d1, d2, d3] }
  | _ => none }
def clockOrderRow : OpenClaim := { program := "ytgidfnmblcjoiaa", sum := "55425f3cfc0b85aadc47057dc4c2cd6d41e2b12cf5e1c10c17468caf7752f472", func := "snubber/snubberlaw14.ClockOrder", spec := "clockOrder", apart := false }
def ClockOrderSaid : Prop := clockOrderRow.holds Try.pinned (OpenSpec.ofChange clockOrderSpec)

/-- ITS FALSE NEIGHBOUR: 'it returns false'. Refute it at one input. -/
def clockOrderWrong : ChangeSpec := { name := "clockOrder", fn := fun _ => fun
  | [d1, d2, d3] => { results := [.lit (.bool false)], args := [d1, d2, d3] }
  | _ => none }
def ClockOrderWrongFalsely : Prop := clockOrderRow.holds Try.pinned (OpenSpec.ofChange clockOrderWrong)

/-- 'snubberlaw14.ClockPlays': WHATEVER THE INPUT: true; the input reads as it did. -/
def clockPlaysSpec : ChangeSpec := { name := "clockPlays", fn := fun _ => fun
  | [d1, d2] => { results := [.lit (.bool true)], args := [d1, d2] }
  | _ => none }
def clockPlaysRow : OpenClaim := { program := "ytgidfnmblcjoiaa", sum := "55425f3cfc0b85aadc47057dc4c2cd6d41e2b12cf5e1c10c17468caf7752f472", func := "snubber/snubberlaw14.ClockPlays", spec := "clockPlays", apart := false }
def ClockPlaysSaid : Prop := clockPlaysRow.holds Try.pinned (OpenSpec.ofChange clockPlaysSpec)

/-- ITS FALSE NEIGHBOUR: 'it returns false'. Refute it at one input. -/
def clockPlaysWrong : ChangeSpec := { name := "clockPlays", fn := fun _ => fun
  | [d1, d2] => { results := [.lit (.bool false)], args := [d1, d2] }
  | _ => none }
def ClockPlaysWrongFalsely : Prop := clockPlaysRow.holds Try.pinned (OpenSpec.ofChange clockPlaysWrong)

/-- 'snubberlaw14.ClockSums': WHATEVER THE INPUT: true; the input reads as it did. -/
def clockSumsSpec : ChangeSpec := { name := "clockSums", fn := fun _ => fun
  | [d1, d2, d3, d4] => { results := [.lit (.bool true)], args := [d1, d2, d3, d4] }
  | _ => none }
def clockSumsRow : OpenClaim := { program := "ytgidfnmblcjoiaa", sum := "55425f3cfc0b85aadc47057dc4c2cd6d41e2b12cf5e1c10c17468caf7752f472", func := "snubber/snubberlaw14.ClockSums", spec := "clockSums", apart := false }
def ClockSumsSaid : Prop := clockSumsRow.holds Try.pinned (OpenSpec.ofChange clockSumsSpec)

/-- ITS FALSE NEIGHBOUR: 'it returns false'. Refute it at one input. -/
def clockSumsWrong : ChangeSpec := { name := "clockSums", fn := fun _ => fun
  | [d1, d2, d3, d4] => { results := [.lit (.bool false)], args := [d1, d2, d3, d4] }
  | _ => none }
def ClockSumsWrongFalsely : Prop := clockSumsRow.holds Try.pinned (OpenSpec.ofChange clockSumsWrong)

/-- 'snubberlaw14.ClockNobody': WHATEVER THE INPUT: true; the input reads as it did. -/
def clockNobodySpec : ChangeSpec := { name := "clockNobody", fn := fun _ => fun
  | [d1, d2] => { results := [.lit (.bool true)], args := [d1, d2] }
  | _ => none }
def clockNobodyRow : OpenClaim := { program := "ytgidfnmblcjoiaa", sum := "55425f3cfc0b85aadc47057dc4c2cd6d41e2b12cf5e1c10c17468caf7752f472", func := "snubber/snubberlaw14.ClockNobody", spec := "clockNobody", apart := false }
def ClockNobodySaid : Prop := clockNobodyRow.holds Try.pinned (OpenSpec.ofChange clockNobodySpec)

/-- ITS FALSE NEIGHBOUR: 'it returns false'. Refute it at one input. -/
def clockNobodyWrong : ChangeSpec := { name := "clockNobody", fn := fun _ => fun
  | [d1, d2] => { results := [.lit (.bool false)], args := [d1, d2] }
  | _ => none }
def ClockNobodyWrongFalsely : Prop := clockNobodyRow.holds Try.pinned (OpenSpec.ofChange clockNobodyWrong)

/-- 'snubberlaw14.ClockStands': WHATEVER THE INPUT: true; the input reads as it did. -/
def clockStandsSpec : ChangeSpec := { name := "clockStands", fn := fun _ => fun
  | [d1, d2, d3] => { results := [.lit (.bool true)], args := [d1, d2, d3] }
  | _ => none }
def clockStandsRow : OpenClaim := { program := "ytgidfnmblcjoiaa", sum := "55425f3cfc0b85aadc47057dc4c2cd6d41e2b12cf5e1c10c17468caf7752f472", func := "snubber/snubberlaw14.ClockStands", spec := "clockStands", apart := false }
def ClockStandsSaid : Prop := clockStandsRow.holds Try.pinned (OpenSpec.ofChange clockStandsSpec)

/-- ITS FALSE NEIGHBOUR: 'it returns false'. Refute it at one input. -/
def clockStandsWrong : ChangeSpec := { name := "clockStands", fn := fun _ => fun
  | [d1, d2, d3] => { results := [.lit (.bool false)], args := [d1, d2, d3] }
  | _ => none }
def ClockStandsWrongFalsely : Prop := clockStandsRow.holds Try.pinned (OpenSpec.ofChange clockStandsWrong)

/-- 'snubberlaw14.ClockRises': WHATEVER THE INPUT: true; the input reads as it did. -/
def clockRisesSpec : ChangeSpec := { name := "clockRises", fn := fun _ => fun
  | [d1, d2] => { results := [.lit (.bool true)], args := [d1, d2] }
  | _ => none }
def clockRisesRow : OpenClaim := { program := "ytgidfnmblcjoiaa", sum := "55425f3cfc0b85aadc47057dc4c2cd6d41e2b12cf5e1c10c17468caf7752f472", func := "snubber/snubberlaw14.ClockRises", spec := "clockRises", apart := false }
def ClockRisesSaid : Prop := clockRisesRow.holds Try.pinned (OpenSpec.ofChange clockRisesSpec)

/-- ITS FALSE NEIGHBOUR: 'it returns false'. Refute it at one input. -/
def clockRisesWrong : ChangeSpec := { name := "clockRises", fn := fun _ => fun
  | [d1, d2] => { results := [.lit (.bool false)], args := [d1, d2] }
  | _ => none }
def ClockRisesWrongFalsely : Prop := clockRisesRow.holds Try.pinned (OpenSpec.ofChange clockRisesWrong)

/- THE SECOND FORM. 'bulk': how many values and letters a reading holds, each counted each time it is reached (what is shared counts as often as it is met; a slice's spare places count too). A statement '..UptoSaid' is the law's where the arguments, and the package variables that the reading takes, are together of bulk at most 1048576: NARROWER than '..Said'. Prove '..Said' where nothing that the law and all that it calls make is longer than what came in: it says more and counts as full. Else prove '..UptoSaid'. A law counts once. -/
mutual
def uptoBulk {H : Type} : DataW H → Nat
  | .lit (.string bytes) => bytes.length + 1
  | .lit _ => 1
  | .nil => 1
  | .ptr d => uptoBulk d + 1
  | .slice elems spare => uptoBulkAll elems + uptoBulkAll spare + 1
  | .agg parts => uptoBulkAll parts + 1
  | .iface _ d => uptoBulk d + 1
  | .map entries => uptoBulkEntries entries + 1
  | .held _ => 1
def uptoBulkAll {H : Type} : List (DataW H) → Nat
  | [] => 0
  | d :: r => uptoBulk d + uptoBulkAll r
def uptoBulkEntries {H : Type} : List (Lit × DataW H) → Nat
  | [] => 0
  | x :: r => uptoBulkEntry x + uptoBulkEntries r
def uptoBulkEntry {H : Type} : Lit × DataW H → Nat
  | (.string bytes, d) => bytes.length + uptoBulk d + 1
  | (_, d) => uptoBulk d + 1
 end
def uptoSmall : (H : Type) → List (DataW H) → Bool := fun _ ds => decide (uptoBulkAll ds ≤ 1048576)
def OpenSpec.upto (s : _root_.Go.ChangeSpec) : _root_.Go.OpenSpec := { _root_.Go.OpenSpec.ofChange s with cond := some uptoSmall }

/-- 'snubberlaw14.ClockBack', WHERE WHAT IT READS IS OF BULK AT MOST 1048576: true; the input reads as it did. -/
def clockBackUptoRow : OpenClaim := { program := "ytgidfnmblcjoiaa", sum := "55425f3cfc0b85aadc47057dc4c2cd6d41e2b12cf5e1c10c17468caf7752f472", func := "snubber/snubberlaw14.ClockBack", spec := "clockBack", apart := false, narrowed := true }
def ClockBackUptoSaid : Prop := clockBackUptoRow.holds Try.pinned (OpenSpec.upto clockBackSpec)

/-- 'snubberlaw14.ClockOrder', WHERE WHAT IT READS IS OF BULK AT MOST 1048576: true; the input reads as it did. -/
def clockOrderUptoRow : OpenClaim := { program := "ytgidfnmblcjoiaa", sum := "55425f3cfc0b85aadc47057dc4c2cd6d41e2b12cf5e1c10c17468caf7752f472", func := "snubber/snubberlaw14.ClockOrder", spec := "clockOrder", apart := false, narrowed := true }
def ClockOrderUptoSaid : Prop := clockOrderUptoRow.holds Try.pinned (OpenSpec.upto clockOrderSpec)

/-- 'snubberlaw14.ClockPlays', WHERE WHAT IT READS IS OF BULK AT MOST 1048576: true; the input reads as it did. -/
def clockPlaysUptoRow : OpenClaim := { program := "ytgidfnmblcjoiaa", sum := "55425f3cfc0b85aadc47057dc4c2cd6d41e2b12cf5e1c10c17468caf7752f472", func := "snubber/snubberlaw14.ClockPlays", spec := "clockPlays", apart := false, narrowed := true }
def ClockPlaysUptoSaid : Prop := clockPlaysUptoRow.holds Try.pinned (OpenSpec.upto clockPlaysSpec)

/-- 'snubberlaw14.ClockSums', WHERE WHAT IT READS IS OF BULK AT MOST 1048576: true; the input reads as it did. -/
def clockSumsUptoRow : OpenClaim := { program := "ytgidfnmblcjoiaa", sum := "55425f3cfc0b85aadc47057dc4c2cd6d41e2b12cf5e1c10c17468caf7752f472", func := "snubber/snubberlaw14.ClockSums", spec := "clockSums", apart := false, narrowed := true }
def ClockSumsUptoSaid : Prop := clockSumsUptoRow.holds Try.pinned (OpenSpec.upto clockSumsSpec)

/-- 'snubberlaw14.ClockNobody', WHERE WHAT IT READS IS OF BULK AT MOST 1048576: true; the input reads as it did. -/
def clockNobodyUptoRow : OpenClaim := { program := "ytgidfnmblcjoiaa", sum := "55425f3cfc0b85aadc47057dc4c2cd6d41e2b12cf5e1c10c17468caf7752f472", func := "snubber/snubberlaw14.ClockNobody", spec := "clockNobody", apart := false, narrowed := true }
def ClockNobodyUptoSaid : Prop := clockNobodyUptoRow.holds Try.pinned (OpenSpec.upto clockNobodySpec)

/-- 'snubberlaw14.ClockStands', WHERE WHAT IT READS IS OF BULK AT MOST 1048576: true; the input reads as it did. -/
def clockStandsUptoRow : OpenClaim := { program := "ytgidfnmblcjoiaa", sum := "55425f3cfc0b85aadc47057dc4c2cd6d41e2b12cf5e1c10c17468caf7752f472", func := "snubber/snubberlaw14.ClockStands", spec := "clockStands", apart := false, narrowed := true }
def ClockStandsUptoSaid : Prop := clockStandsUptoRow.holds Try.pinned (OpenSpec.upto clockStandsSpec)

/-- 'snubberlaw14.ClockRises', WHERE WHAT IT READS IS OF BULK AT MOST 1048576: true; the input reads as it did. -/
def clockRisesUptoRow : OpenClaim := { program := "ytgidfnmblcjoiaa", sum := "55425f3cfc0b85aadc47057dc4c2cd6d41e2b12cf5e1c10c17468caf7752f472", func := "snubber/snubberlaw14.ClockRises", spec := "clockRises", apart := false, narrowed := true }
def ClockRisesUptoSaid : Prop := clockRisesUptoRow.holds Try.pinned (OpenSpec.upto clockRisesSpec)

end Rows
end Go.Proofs.Ytgidfnmblcjoiaa
