/-
  No cell of these rows narrows 'for every input' (looked for: loops, veiled, ifaces, maps, wideKeys, modest, calm, conditions, laid).
  DERIVED. THE GIVEN ROWS OF THIS SEAT. 6 by the template 'for every input the law returns true; each argument reads behind the call as it read before'; 0 by the template 'total and deterministic' (their statements: YtdhifcjfkbidoaaTotals.lean).
  GIVEN WITH THE SEED: the statements are not yours to turn. If you find one false, say at which input.
  Laid BY PROGRAM, IN A SANDBOX (cutbox-rows.mjs): the forced cells as the released guide's own fill.sh prints them over the translation 2048242b2cee8562… (all of the seat's roots in one cut). By AI agents, Wed Nov 11 2026. No macro, syntax, notation, axiom, sorry.
-/
import Derived.Test.YtdhifcjfkbidoaaChecked
import GoSem.Claim
import GoSem.ClaimJoined
import GoSem.ClaimMapViews
import Derived.JoinedTies
import Derived.KernelRfl
namespace Go.Proofs.Ytdhifcjfkbidoaa
/- THE CELL 'sum', in the pinned program and in every row, IS THE sha256 OF THE DUMP (.gsa) THAT YtdhifcjfkbidoaaProg.lean LOADS. Nothing in Lean hashes anything: it is a label: what it is worth is what the hold of that sum in a sandbox is worth. -/
noncomputable def Try.pinned : Pinned := { name := "ytdhifcjfkbidoaa", sum := "2048242b2cee85627491c3f50e2e2cc25aebaf30d4647558165b34f056d0b04a", checked := Try.checked }
namespace Rows
def none {H : Type} : Left H := { results := [], args := [] }

/-- 'snubberlaw09.CsrApart': WHATEVER THE INPUT: true; the input reads as it did. -/
def csrApartSpec : ChangeSpec := { name := "csrApart", fn := fun _ => fun
  | [d1, d2] => { results := [.lit (.bool true)], args := [d1, d2] }
  | _ => none }
def csrApartRow : OpenClaim := { program := "ytdhifcjfkbidoaa", sum := "2048242b2cee85627491c3f50e2e2cc25aebaf30d4647558165b34f056d0b04a", func := "snubber/snubberlaw09.CsrApart", spec := "csrApart", apart := false }
def CsrApartSaid : Prop := csrApartRow.holds Try.pinned (OpenSpec.ofChange csrApartSpec)

/-- ITS FALSE NEIGHBOUR: 'it returns false'. Refute it at one input. -/
def csrApartWrong : ChangeSpec := { name := "csrApart", fn := fun _ => fun
  | [d1, d2] => { results := [.lit (.bool false)], args := [d1, d2] }
  | _ => none }
def CsrApartWrongFalsely : Prop := csrApartRow.holds Try.pinned (OpenSpec.ofChange csrApartWrong)

/-- 'snubberlaw09.CsrLines': WHATEVER THE INPUT: true; the input reads as it did. -/
def csrLinesSpec : ChangeSpec := { name := "csrLines", fn := fun _ => fun
  | [d1, d2] => { results := [.lit (.bool true)], args := [d1, d2] }
  | _ => none }
def csrLinesRow : OpenClaim := { program := "ytdhifcjfkbidoaa", sum := "2048242b2cee85627491c3f50e2e2cc25aebaf30d4647558165b34f056d0b04a", func := "snubber/snubberlaw09.CsrLines", spec := "csrLines", apart := false }
def CsrLinesSaid : Prop := csrLinesRow.holds Try.pinned (OpenSpec.ofChange csrLinesSpec)

/-- ITS FALSE NEIGHBOUR: 'it returns false'. Refute it at one input. -/
def csrLinesWrong : ChangeSpec := { name := "csrLines", fn := fun _ => fun
  | [d1, d2] => { results := [.lit (.bool false)], args := [d1, d2] }
  | _ => none }
def CsrLinesWrongFalsely : Prop := csrLinesRow.holds Try.pinned (OpenSpec.ofChange csrLinesWrong)

/-- 'snubberlaw09.CsrStays': WHATEVER THE INPUT: true; the input reads as it did. -/
def csrStaysSpec : ChangeSpec := { name := "csrStays", fn := fun _ => fun
  | [d1, d2, d3] => { results := [.lit (.bool true)], args := [d1, d2, d3] }
  | _ => none }
def csrStaysRow : OpenClaim := { program := "ytdhifcjfkbidoaa", sum := "2048242b2cee85627491c3f50e2e2cc25aebaf30d4647558165b34f056d0b04a", func := "snubber/snubberlaw09.CsrStays", spec := "csrStays", apart := false }
def CsrStaysSaid : Prop := csrStaysRow.holds Try.pinned (OpenSpec.ofChange csrStaysSpec)

/-- ITS FALSE NEIGHBOUR: 'it returns false'. Refute it at one input. -/
def csrStaysWrong : ChangeSpec := { name := "csrStays", fn := fun _ => fun
  | [d1, d2, d3] => { results := [.lit (.bool false)], args := [d1, d2, d3] }
  | _ => none }
def CsrStaysWrongFalsely : Prop := csrStaysRow.holds Try.pinned (OpenSpec.ofChange csrStaysWrong)

/-- 'snubberlaw09.CsrResets': WHATEVER THE INPUT: true; the input reads as it did. -/
def csrResetsSpec : ChangeSpec := { name := "csrResets", fn := fun _ => fun
  | [d1, d2] => { results := [.lit (.bool true)], args := [d1, d2] }
  | _ => none }
def csrResetsRow : OpenClaim := { program := "ytdhifcjfkbidoaa", sum := "2048242b2cee85627491c3f50e2e2cc25aebaf30d4647558165b34f056d0b04a", func := "snubber/snubberlaw09.CsrResets", spec := "csrResets", apart := false }
def CsrResetsSaid : Prop := csrResetsRow.holds Try.pinned (OpenSpec.ofChange csrResetsSpec)

/-- ITS FALSE NEIGHBOUR: 'it returns false'. Refute it at one input. -/
def csrResetsWrong : ChangeSpec := { name := "csrResets", fn := fun _ => fun
  | [d1, d2] => { results := [.lit (.bool false)], args := [d1, d2] }
  | _ => none }
def CsrResetsWrongFalsely : Prop := csrResetsRow.holds Try.pinned (OpenSpec.ofChange csrResetsWrong)

/-- 'snubberlaw09.CsrPlays': WHATEVER THE INPUT: true; the input reads as it did. -/
def csrPlaysSpec : ChangeSpec := { name := "csrPlays", fn := fun _ => fun
  | [d1, d2] => { results := [.lit (.bool true)], args := [d1, d2] }
  | _ => none }
def csrPlaysRow : OpenClaim := { program := "ytdhifcjfkbidoaa", sum := "2048242b2cee85627491c3f50e2e2cc25aebaf30d4647558165b34f056d0b04a", func := "snubber/snubberlaw09.CsrPlays", spec := "csrPlays", apart := false }
def CsrPlaysSaid : Prop := csrPlaysRow.holds Try.pinned (OpenSpec.ofChange csrPlaysSpec)

/-- ITS FALSE NEIGHBOUR: 'it returns false'. Refute it at one input. -/
def csrPlaysWrong : ChangeSpec := { name := "csrPlays", fn := fun _ => fun
  | [d1, d2] => { results := [.lit (.bool false)], args := [d1, d2] }
  | _ => none }
def CsrPlaysWrongFalsely : Prop := csrPlaysRow.holds Try.pinned (OpenSpec.ofChange csrPlaysWrong)

/-- 'snubberlaw09.CsrNobody': WHATEVER THE INPUT: true; the input reads as it did. -/
def csrNobodySpec : ChangeSpec := { name := "csrNobody", fn := fun _ => fun
  | [d1, d2] => { results := [.lit (.bool true)], args := [d1, d2] }
  | _ => none }
def csrNobodyRow : OpenClaim := { program := "ytdhifcjfkbidoaa", sum := "2048242b2cee85627491c3f50e2e2cc25aebaf30d4647558165b34f056d0b04a", func := "snubber/snubberlaw09.CsrNobody", spec := "csrNobody", apart := false }
def CsrNobodySaid : Prop := csrNobodyRow.holds Try.pinned (OpenSpec.ofChange csrNobodySpec)

/-- ITS FALSE NEIGHBOUR: 'it returns false'. Refute it at one input. -/
def csrNobodyWrong : ChangeSpec := { name := "csrNobody", fn := fun _ => fun
  | [d1, d2] => { results := [.lit (.bool false)], args := [d1, d2] }
  | _ => none }
def CsrNobodyWrongFalsely : Prop := csrNobodyRow.holds Try.pinned (OpenSpec.ofChange csrNobodyWrong)

/- THE SECOND FORM. 'bulk': how many values and letters a reading holds, each counted each time it is reached (what is shared counts as often as it is met; a slice's spare places count too). A statement '..UptoSaid' is the law's where the arguments, and the package variables that the reading takes, are together of bulk at most 1048576: NARROWER than '..Said'. Prove '..Said' where nothing that the law and all that it calls make is longer than what came in: it says more and counts as full. Else prove '..UptoSaid'. A law counts once. -/
mutual
def uptoBulk {H : Type} : DataW H → Nat
  | .lit (.string bytes) => bytes.length + 1
  | .lit _ => 1
  | .nil => 1
  | .ptr d => uptoBulk d + 1
  | .slice elems spare => uptoBulkAll elems + uptoBulkAll spare + 1
  | .agg parts => uptoBulkAll parts + 1
  | .iface _ d => uptoBulk d + 1
  | .map entries => uptoBulkEntries entries + 1
  | .held _ => 1
def uptoBulkAll {H : Type} : List (DataW H) → Nat
  | [] => 0
  | d :: r => uptoBulk d + uptoBulkAll r
def uptoBulkEntries {H : Type} : List (Lit × DataW H) → Nat
  | [] => 0
  | x :: r => uptoBulkEntry x + uptoBulkEntries r
def uptoBulkEntry {H : Type} : Lit × DataW H → Nat
  | (.string bytes, d) => bytes.length + uptoBulk d + 1
  | (_, d) => uptoBulk d + 1
 end
def uptoSmall : (H : Type) → List (DataW H) → Bool := fun _ ds => decide (uptoBulkAll ds ≤ 1048576)
def OpenSpec.upto (s : _root_.Go.ChangeSpec) : _root_.Go.OpenSpec := { _root_.Go.OpenSpec.ofChange s with cond := some uptoSmall }

/-- 'snubberlaw09.CsrApart', WHERE WHAT IT READS IS OF BULK AT MOST 1048576: true; the input reads as it did. -/
def csrApartUptoRow : OpenClaim := { program := "ytdhifcjfkbidoaa", sum := "2048242b2cee85627491c3f50e2e2cc25aebaf30d4647558165b34f056d0b04a", func := "snubber/snubberlaw09.CsrApart", spec := "csrApart", apart := false, narrowed := true }
def CsrApartUptoSaid : Prop := csrApartUptoRow.holds Try.pinned (OpenSpec.upto csrApartSpec)

/-- 'snubberlaw09.CsrLines', WHERE WHAT IT READS IS OF BULK AT MOST 1048576: true; the input reads as it did. -/
def csrLinesUptoRow : OpenClaim := { program := "ytdhifcjfkbidoaa", sum := "2048242b2cee85627491c3f50e2e2cc25aebaf30d4647558165b34f056d0b04a", func := "snubber/snubberlaw09.CsrLines", spec := "csrLines", apart := false, narrowed := true }
def CsrLinesUptoSaid : Prop := csrLinesUptoRow.holds Try.pinned (OpenSpec.upto csrLinesSpec)

/-- 'snubberlaw09.CsrStays', WHERE WHAT IT READS IS OF BULK AT MOST 1048576: true; the input reads as it did. -/
def csrStaysUptoRow : OpenClaim := { program := "ytdhifcjfkbidoaa", sum := "2048242b2cee85627491c3f50e2e2cc25aebaf30d4647558165b34f056d0b04a", func := "snubber/snubberlaw09.CsrStays", spec := "csrStays", apart := false, narrowed := true }
def CsrStaysUptoSaid : Prop := csrStaysUptoRow.holds Try.pinned (OpenSpec.upto csrStaysSpec)

/-- 'snubberlaw09.CsrResets', WHERE WHAT IT READS IS OF BULK AT MOST 1048576: true; the input reads as it did. -/
def csrResetsUptoRow : OpenClaim := { program := "ytdhifcjfkbidoaa", sum := "2048242b2cee85627491c3f50e2e2cc25aebaf30d4647558165b34f056d0b04a", func := "snubber/snubberlaw09.CsrResets", spec := "csrResets", apart := false, narrowed := true }
def CsrResetsUptoSaid : Prop := csrResetsUptoRow.holds Try.pinned (OpenSpec.upto csrResetsSpec)

/-- 'snubberlaw09.CsrPlays', WHERE WHAT IT READS IS OF BULK AT MOST 1048576: true; the input reads as it did. -/
def csrPlaysUptoRow : OpenClaim := { program := "ytdhifcjfkbidoaa", sum := "2048242b2cee85627491c3f50e2e2cc25aebaf30d4647558165b34f056d0b04a", func := "snubber/snubberlaw09.CsrPlays", spec := "csrPlays", apart := false, narrowed := true }
def CsrPlaysUptoSaid : Prop := csrPlaysUptoRow.holds Try.pinned (OpenSpec.upto csrPlaysSpec)

/-- 'snubberlaw09.CsrNobody', WHERE WHAT IT READS IS OF BULK AT MOST 1048576: true; the input reads as it did. -/
def csrNobodyUptoRow : OpenClaim := { program := "ytdhifcjfkbidoaa", sum := "2048242b2cee85627491c3f50e2e2cc25aebaf30d4647558165b34f056d0b04a", func := "snubber/snubberlaw09.CsrNobody", spec := "csrNobody", apart := false, narrowed := true }
def CsrNobodyUptoSaid : Prop := csrNobodyUptoRow.holds Try.pinned (OpenSpec.upto csrNobodySpec)

end Rows
end Go.Proofs.Ytdhifcjfkbidoaa
