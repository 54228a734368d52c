/-
  No cell of these rows narrows 'for every input' (looked for: loops, veiled, ifaces, maps, wideKeys, modest, calm, conditions, laid).
  DERIVED. THE GIVEN ROWS OF THIS SEAT. 19 by the template 'for every input the law returns true; each argument reads behind the call as it read before'; 0 by the template 'total and deterministic' (their statements: YtbiplmlkgbicnaaTotals.lean).
  GIVEN WITH THE SEED: the statements are not yours to turn. If you find one false, say at which input.
  Laid BY PROGRAM, IN A SANDBOX (cutbox-rows.mjs): the forced cells as the released guide's own fill.sh prints them over the translation 93574e2b2b5d8a2a… (all of the seat's roots in one cut). By AI agents, Wed Nov 11 2026. No macro, syntax, notation, axiom, sorry.
-/
import Derived.Test.YtbiplmlkgbicnaaChecked
import GoSem.Claim
import GoSem.ClaimJoined
import GoSem.ClaimMapViews
import Derived.JoinedTies
import Derived.KernelRfl
namespace Go.Proofs.Ytbiplmlkgbicnaa
/- THE CELL 'sum', in the pinned program and in every row, IS THE sha256 OF THE DUMP (.gsa) THAT YtbiplmlkgbicnaaProg.lean LOADS. Nothing in Lean hashes anything: it is a label: what it is worth is what the hold of that sum in a sandbox is worth. -/
noncomputable def Try.pinned : Pinned := { name := "ytbiplmlkgbicnaa", sum := "93574e2b2b5d8a2ab7d09de7d0c79245ad6994a1ad6a1c2d6e3c148a5cf90c3b", checked := Try.checked }
namespace Rows
def none {H : Type} : Left H := { results := [], args := [] }

/-- 'snubberlaw15.EventKinds': WHATEVER THE INPUT: true; the input reads as it did. -/
def eventKindsSpec : ChangeSpec := { name := "eventKinds", fn := fun _ => fun
  | [d] => { results := [.lit (.bool true)], args := [d] }
  | _ => none }
def eventKindsRow : OpenClaim := { program := "ytbiplmlkgbicnaa", sum := "93574e2b2b5d8a2ab7d09de7d0c79245ad6994a1ad6a1c2d6e3c148a5cf90c3b", func := "snubber/snubberlaw15.EventKinds", spec := "eventKinds", apart := false }
def EventKindsSaid : Prop := eventKindsRow.holds Try.pinned (OpenSpec.ofChange eventKindsSpec)

/-- ITS FALSE NEIGHBOUR: 'it returns false'. Refute it at one input. -/
def eventKindsWrong : ChangeSpec := { name := "eventKinds", fn := fun _ => fun
  | [d] => { results := [.lit (.bool false)], args := [d] }
  | _ => none }
def EventKindsWrongFalsely : Prop := eventKindsRow.holds Try.pinned (OpenSpec.ofChange eventKindsWrong)

/-- 'snubberlaw15.EventTold': WHATEVER THE INPUT: true; the input reads as it did. -/
def eventToldSpec : ChangeSpec := { name := "eventTold", fn := fun _ => fun
  | [d1, d2, d3, d4, d5] => { results := [.lit (.bool true)], args := [d1, d2, d3, d4, d5] }
  | _ => none }
def eventToldRow : OpenClaim := { program := "ytbiplmlkgbicnaa", sum := "93574e2b2b5d8a2ab7d09de7d0c79245ad6994a1ad6a1c2d6e3c148a5cf90c3b", func := "snubber/snubberlaw15.EventTold", spec := "eventTold", apart := false }
def EventToldSaid : Prop := eventToldRow.holds Try.pinned (OpenSpec.ofChange eventToldSpec)

/-- ITS FALSE NEIGHBOUR: 'it returns false'. Refute it at one input. -/
def eventToldWrong : ChangeSpec := { name := "eventTold", fn := fun _ => fun
  | [d1, d2, d3, d4, d5] => { results := [.lit (.bool false)], args := [d1, d2, d3, d4, d5] }
  | _ => none }
def EventToldWrongFalsely : Prop := eventToldRow.holds Try.pinned (OpenSpec.ofChange eventToldWrong)

/-- 'snubberlaw15.EventPads': WHATEVER THE INPUT: true; the input reads as it did. -/
def eventPadsSpec : ChangeSpec := { name := "eventPads", fn := fun _ => fun
  | [d1, d2, d3, d4] => { results := [.lit (.bool true)], args := [d1, d2, d3, d4] }
  | _ => none }
def eventPadsRow : OpenClaim := { program := "ytbiplmlkgbicnaa", sum := "93574e2b2b5d8a2ab7d09de7d0c79245ad6994a1ad6a1c2d6e3c148a5cf90c3b", func := "snubber/snubberlaw15.EventPads", spec := "eventPads", apart := false }
def EventPadsSaid : Prop := eventPadsRow.holds Try.pinned (OpenSpec.ofChange eventPadsSpec)

/-- ITS FALSE NEIGHBOUR: 'it returns false'. Refute it at one input. -/
def eventPadsWrong : ChangeSpec := { name := "eventPads", fn := fun _ => fun
  | [d1, d2, d3, d4] => { results := [.lit (.bool false)], args := [d1, d2, d3, d4] }
  | _ => none }
def EventPadsWrongFalsely : Prop := eventPadsRow.holds Try.pinned (OpenSpec.ofChange eventPadsWrong)

/-- 'snubberlaw03.FrameParses': WHATEVER THE INPUT: true; the input reads as it did. -/
def frameParsesSpec : ChangeSpec := { name := "frameParses", fn := fun _ => fun
  | [d] => { results := [.lit (.bool true)], args := [d] }
  | _ => none }
def frameParsesRow : OpenClaim := { program := "ytbiplmlkgbicnaa", sum := "93574e2b2b5d8a2ab7d09de7d0c79245ad6994a1ad6a1c2d6e3c148a5cf90c3b", func := "snubber/snubberlaw03.FrameParses", spec := "frameParses", apart := false }
def FrameParsesSaid : Prop := frameParsesRow.holds Try.pinned (OpenSpec.ofChange frameParsesSpec)

/-- ITS FALSE NEIGHBOUR: 'it returns false'. Refute it at one input. -/
def frameParsesWrong : ChangeSpec := { name := "frameParses", fn := fun _ => fun
  | [d] => { results := [.lit (.bool false)], args := [d] }
  | _ => none }
def FrameParsesWrongFalsely : Prop := frameParsesRow.holds Try.pinned (OpenSpec.ofChange frameParsesWrong)

/-- 'snubberlaw03.FrameAgain': WHATEVER THE INPUT: true; the input reads as it did. -/
def frameAgainSpec : ChangeSpec := { name := "frameAgain", fn := fun _ => fun
  | [d] => { results := [.lit (.bool true)], args := [d] }
  | _ => none }
def frameAgainRow : OpenClaim := { program := "ytbiplmlkgbicnaa", sum := "93574e2b2b5d8a2ab7d09de7d0c79245ad6994a1ad6a1c2d6e3c148a5cf90c3b", func := "snubber/snubberlaw03.FrameAgain", spec := "frameAgain", apart := false }
def FrameAgainSaid : Prop := frameAgainRow.holds Try.pinned (OpenSpec.ofChange frameAgainSpec)

/-- ITS FALSE NEIGHBOUR: 'it returns false'. Refute it at one input. -/
def frameAgainWrong : ChangeSpec := { name := "frameAgain", fn := fun _ => fun
  | [d] => { results := [.lit (.bool false)], args := [d] }
  | _ => none }
def FrameAgainWrongFalsely : Prop := frameAgainRow.holds Try.pinned (OpenSpec.ofChange frameAgainWrong)

/-- 'snubberlaw03.FrameHeads': WHATEVER THE INPUT: true; the input reads as it did. -/
def frameHeadsSpec : ChangeSpec := { name := "frameHeads", fn := fun _ => fun
  | [d] => { results := [.lit (.bool true)], args := [d] }
  | _ => none }
def frameHeadsRow : OpenClaim := { program := "ytbiplmlkgbicnaa", sum := "93574e2b2b5d8a2ab7d09de7d0c79245ad6994a1ad6a1c2d6e3c148a5cf90c3b", func := "snubber/snubberlaw03.FrameHeads", spec := "frameHeads", apart := false }
def FrameHeadsSaid : Prop := frameHeadsRow.holds Try.pinned (OpenSpec.ofChange frameHeadsSpec)

/-- ITS FALSE NEIGHBOUR: 'it returns false'. Refute it at one input. -/
def frameHeadsWrong : ChangeSpec := { name := "frameHeads", fn := fun _ => fun
  | [d] => { results := [.lit (.bool false)], args := [d] }
  | _ => none }
def FrameHeadsWrongFalsely : Prop := frameHeadsRow.holds Try.pinned (OpenSpec.ofChange frameHeadsWrong)

/-- 'snubberlaw03.FrameCuts': WHATEVER THE INPUT: true; the input reads as it did. -/
def frameCutsSpec : ChangeSpec := { name := "frameCuts", fn := fun _ => fun
  | [d1, d2, d3] => { results := [.lit (.bool true)], args := [d1, d2, d3] }
  | _ => none }
def frameCutsRow : OpenClaim := { program := "ytbiplmlkgbicnaa", sum := "93574e2b2b5d8a2ab7d09de7d0c79245ad6994a1ad6a1c2d6e3c148a5cf90c3b", func := "snubber/snubberlaw03.FrameCuts", spec := "frameCuts", apart := false }
def FrameCutsSaid : Prop := frameCutsRow.holds Try.pinned (OpenSpec.ofChange frameCutsSpec)

/-- ITS FALSE NEIGHBOUR: 'it returns false'. Refute it at one input. -/
def frameCutsWrong : ChangeSpec := { name := "frameCuts", fn := fun _ => fun
  | [d1, d2, d3] => { results := [.lit (.bool false)], args := [d1, d2, d3] }
  | _ => none }
def FrameCutsWrongFalsely : Prop := frameCutsRow.holds Try.pinned (OpenSpec.ofChange frameCutsWrong)

/-- 'snubberlaw03.FrameBuilds': WHATEVER THE INPUT: true; the input reads as it did. -/
def frameBuildsSpec : ChangeSpec := { name := "frameBuilds", fn := fun _ => fun
  | [d] => { results := [.lit (.bool true)], args := [d] }
  | _ => none }
def frameBuildsRow : OpenClaim := { program := "ytbiplmlkgbicnaa", sum := "93574e2b2b5d8a2ab7d09de7d0c79245ad6994a1ad6a1c2d6e3c148a5cf90c3b", func := "snubber/snubberlaw03.FrameBuilds", spec := "frameBuilds", apart := false }
def FrameBuildsSaid : Prop := frameBuildsRow.holds Try.pinned (OpenSpec.ofChange frameBuildsSpec)

/-- ITS FALSE NEIGHBOUR: 'it returns false'. Refute it at one input. -/
def frameBuildsWrong : ChangeSpec := { name := "frameBuilds", fn := fun _ => fun
  | [d] => { results := [.lit (.bool false)], args := [d] }
  | _ => none }
def FrameBuildsWrongFalsely : Prop := frameBuildsRow.holds Try.pinned (OpenSpec.ofChange frameBuildsWrong)

/-- 'snubberlaw03.FrameBack': WHATEVER THE INPUT: true; the input reads as it did. -/
def frameBackSpec : ChangeSpec := { name := "frameBack", fn := fun _ => fun
  | [d] => { results := [.lit (.bool true)], args := [d] }
  | _ => none }
def frameBackRow : OpenClaim := { program := "ytbiplmlkgbicnaa", sum := "93574e2b2b5d8a2ab7d09de7d0c79245ad6994a1ad6a1c2d6e3c148a5cf90c3b", func := "snubber/snubberlaw03.FrameBack", spec := "frameBack", apart := false }
def FrameBackSaid : Prop := frameBackRow.holds Try.pinned (OpenSpec.ofChange frameBackSpec)

/-- ITS FALSE NEIGHBOUR: 'it returns false'. Refute it at one input. -/
def frameBackWrong : ChangeSpec := { name := "frameBack", fn := fun _ => fun
  | [d] => { results := [.lit (.bool false)], args := [d] }
  | _ => none }
def FrameBackWrongFalsely : Prop := frameBackRow.holds Try.pinned (OpenSpec.ofChange frameBackWrong)

/-- 'snubberlaw03.FrameTags': WHATEVER THE INPUT: true; the input reads as it did. -/
def frameTagsSpec : ChangeSpec := { name := "frameTags", fn := fun _ => fun
  | [d1, d2, d3] => { results := [.lit (.bool true)], args := [d1, d2, d3] }
  | _ => none }
def frameTagsRow : OpenClaim := { program := "ytbiplmlkgbicnaa", sum := "93574e2b2b5d8a2ab7d09de7d0c79245ad6994a1ad6a1c2d6e3c148a5cf90c3b", func := "snubber/snubberlaw03.FrameTags", spec := "frameTags", apart := false }
def FrameTagsSaid : Prop := frameTagsRow.holds Try.pinned (OpenSpec.ofChange frameTagsSpec)

/-- ITS FALSE NEIGHBOUR: 'it returns false'. Refute it at one input. -/
def frameTagsWrong : ChangeSpec := { name := "frameTags", fn := fun _ => fun
  | [d1, d2, d3] => { results := [.lit (.bool false)], args := [d1, d2, d3] }
  | _ => none }
def FrameTagsWrongFalsely : Prop := frameTagsRow.holds Try.pinned (OpenSpec.ofChange frameTagsWrong)

/-- 'snubberlaw04.PauseBuilds': WHATEVER THE INPUT: true; the input reads as it did. -/
def pauseBuildsSpec : ChangeSpec := { name := "pauseBuilds", fn := fun _ => fun
  | [d1, d2, d3] => { results := [.lit (.bool true)], args := [d1, d2, d3] }
  | _ => none }
def pauseBuildsRow : OpenClaim := { program := "ytbiplmlkgbicnaa", sum := "93574e2b2b5d8a2ab7d09de7d0c79245ad6994a1ad6a1c2d6e3c148a5cf90c3b", func := "snubber/snubberlaw04.PauseBuilds", spec := "pauseBuilds", apart := false }
def PauseBuildsSaid : Prop := pauseBuildsRow.holds Try.pinned (OpenSpec.ofChange pauseBuildsSpec)

/-- ITS FALSE NEIGHBOUR: 'it returns false'. Refute it at one input. -/
def pauseBuildsWrong : ChangeSpec := { name := "pauseBuilds", fn := fun _ => fun
  | [d1, d2, d3] => { results := [.lit (.bool false)], args := [d1, d2, d3] }
  | _ => none }
def PauseBuildsWrongFalsely : Prop := pauseBuildsRow.holds Try.pinned (OpenSpec.ofChange pauseBuildsWrong)

/-- 'snubberlaw04.PauseBack': WHATEVER THE INPUT: true; the input reads as it did. -/
def pauseBackSpec : ChangeSpec := { name := "pauseBack", fn := fun _ => fun
  | [d1, d2] => { results := [.lit (.bool true)], args := [d1, d2] }
  | _ => none }
def pauseBackRow : OpenClaim := { program := "ytbiplmlkgbicnaa", sum := "93574e2b2b5d8a2ab7d09de7d0c79245ad6994a1ad6a1c2d6e3c148a5cf90c3b", func := "snubber/snubberlaw04.PauseBack", spec := "pauseBack", apart := false }
def PauseBackSaid : Prop := pauseBackRow.holds Try.pinned (OpenSpec.ofChange pauseBackSpec)

/-- ITS FALSE NEIGHBOUR: 'it returns false'. Refute it at one input. -/
def pauseBackWrong : ChangeSpec := { name := "pauseBack", fn := fun _ => fun
  | [d1, d2] => { results := [.lit (.bool false)], args := [d1, d2] }
  | _ => none }
def PauseBackWrongFalsely : Prop := pauseBackRow.holds Try.pinned (OpenSpec.ofChange pauseBackWrong)

/-- 'snubberlaw04.PauseOthers': WHATEVER THE INPUT: true; the input reads as it did. -/
def pauseOthersSpec : ChangeSpec := { name := "pauseOthers", fn := fun _ => fun
  | [d1, d2, d3, d4] => { results := [.lit (.bool true)], args := [d1, d2, d3, d4] }
  | _ => none }
def pauseOthersRow : OpenClaim := { program := "ytbiplmlkgbicnaa", sum := "93574e2b2b5d8a2ab7d09de7d0c79245ad6994a1ad6a1c2d6e3c148a5cf90c3b", func := "snubber/snubberlaw04.PauseOthers", spec := "pauseOthers", apart := false }
def PauseOthersSaid : Prop := pauseOthersRow.holds Try.pinned (OpenSpec.ofChange pauseOthersSpec)

/-- ITS FALSE NEIGHBOUR: 'it returns false'. Refute it at one input. -/
def pauseOthersWrong : ChangeSpec := { name := "pauseOthers", fn := fun _ => fun
  | [d1, d2, d3, d4] => { results := [.lit (.bool false)], args := [d1, d2, d3, d4] }
  | _ => none }
def PauseOthersWrongFalsely : Prop := pauseOthersRow.holds Try.pinned (OpenSpec.ofChange pauseOthersWrong)

/-- 'snubberlaw04.PauseSums': WHATEVER THE INPUT: true; the input reads as it did. -/
def pauseSumsSpec : ChangeSpec := { name := "pauseSums", fn := fun _ => fun
  | [d1, d2, d3] => { results := [.lit (.bool true)], args := [d1, d2, d3] }
  | _ => none }
def pauseSumsRow : OpenClaim := { program := "ytbiplmlkgbicnaa", sum := "93574e2b2b5d8a2ab7d09de7d0c79245ad6994a1ad6a1c2d6e3c148a5cf90c3b", func := "snubber/snubberlaw04.PauseSums", spec := "pauseSums", apart := false }
def PauseSumsSaid : Prop := pauseSumsRow.holds Try.pinned (OpenSpec.ofChange pauseSumsSpec)

/-- ITS FALSE NEIGHBOUR: 'it returns false'. Refute it at one input. -/
def pauseSumsWrong : ChangeSpec := { name := "pauseSums", fn := fun _ => fun
  | [d1, d2, d3] => { results := [.lit (.bool false)], args := [d1, d2, d3] }
  | _ => none }
def PauseSumsWrongFalsely : Prop := pauseSumsRow.holds Try.pinned (OpenSpec.ofChange pauseSumsWrong)

/-- 'snubberlaw04.PauseTicks': WHATEVER THE INPUT: true; the input reads as it did. -/
def pauseTicksSpec : ChangeSpec := { name := "pauseTicks", fn := fun _ => fun
  | [d1, d2, d3] => { results := [.lit (.bool true)], args := [d1, d2, d3] }
  | _ => none }
def pauseTicksRow : OpenClaim := { program := "ytbiplmlkgbicnaa", sum := "93574e2b2b5d8a2ab7d09de7d0c79245ad6994a1ad6a1c2d6e3c148a5cf90c3b", func := "snubber/snubberlaw04.PauseTicks", spec := "pauseTicks", apart := false }
def PauseTicksSaid : Prop := pauseTicksRow.holds Try.pinned (OpenSpec.ofChange pauseTicksSpec)

/-- ITS FALSE NEIGHBOUR: 'it returns false'. Refute it at one input. -/
def pauseTicksWrong : ChangeSpec := { name := "pauseTicks", fn := fun _ => fun
  | [d1, d2, d3] => { results := [.lit (.bool false)], args := [d1, d2, d3] }
  | _ => none }
def PauseTicksWrongFalsely : Prop := pauseTicksRow.holds Try.pinned (OpenSpec.ofChange pauseTicksWrong)

/-- 'snubberlaw04.PauseEnds': WHATEVER THE INPUT: true; the input reads as it did. -/
def pauseEndsSpec : ChangeSpec := { name := "pauseEnds", fn := fun _ => fun
  | [d1, d2, d3, d4] => { results := [.lit (.bool true)], args := [d1, d2, d3, d4] }
  | _ => none }
def pauseEndsRow : OpenClaim := { program := "ytbiplmlkgbicnaa", sum := "93574e2b2b5d8a2ab7d09de7d0c79245ad6994a1ad6a1c2d6e3c148a5cf90c3b", func := "snubber/snubberlaw04.PauseEnds", spec := "pauseEnds", apart := false }
def PauseEndsSaid : Prop := pauseEndsRow.holds Try.pinned (OpenSpec.ofChange pauseEndsSpec)

/-- ITS FALSE NEIGHBOUR: 'it returns false'. Refute it at one input. -/
def pauseEndsWrong : ChangeSpec := { name := "pauseEnds", fn := fun _ => fun
  | [d1, d2, d3, d4] => { results := [.lit (.bool false)], args := [d1, d2, d3, d4] }
  | _ => none }
def PauseEndsWrongFalsely : Prop := pauseEndsRow.holds Try.pinned (OpenSpec.ofChange pauseEndsWrong)

/-- 'snubberlaw15.EventNobody': WHATEVER THE INPUT: true; the input reads as it did. -/
def eventNobodySpec : ChangeSpec := { name := "eventNobody", fn := fun _ => fun
  | [d] => { results := [.lit (.bool true)], args := [d] }
  | _ => none }
def eventNobodyRow : OpenClaim := { program := "ytbiplmlkgbicnaa", sum := "93574e2b2b5d8a2ab7d09de7d0c79245ad6994a1ad6a1c2d6e3c148a5cf90c3b", func := "snubber/snubberlaw15.EventNobody", spec := "eventNobody", apart := false }
def EventNobodySaid : Prop := eventNobodyRow.holds Try.pinned (OpenSpec.ofChange eventNobodySpec)

/-- ITS FALSE NEIGHBOUR: 'it returns false'. Refute it at one input. -/
def eventNobodyWrong : ChangeSpec := { name := "eventNobody", fn := fun _ => fun
  | [d] => { results := [.lit (.bool false)], args := [d] }
  | _ => none }
def EventNobodyWrongFalsely : Prop := eventNobodyRow.holds Try.pinned (OpenSpec.ofChange eventNobodyWrong)

/-- 'snubberlaw15.EventPlays': WHATEVER THE INPUT: true; the input reads as it did. -/
def eventPlaysSpec : ChangeSpec := { name := "eventPlays", fn := fun _ => fun
  | [d1, d2] => { results := [.lit (.bool true)], args := [d1, d2] }
  | _ => none }
def eventPlaysRow : OpenClaim := { program := "ytbiplmlkgbicnaa", sum := "93574e2b2b5d8a2ab7d09de7d0c79245ad6994a1ad6a1c2d6e3c148a5cf90c3b", func := "snubber/snubberlaw15.EventPlays", spec := "eventPlays", apart := false }
def EventPlaysSaid : Prop := eventPlaysRow.holds Try.pinned (OpenSpec.ofChange eventPlaysSpec)

/-- ITS FALSE NEIGHBOUR: 'it returns false'. Refute it at one input. -/
def eventPlaysWrong : ChangeSpec := { name := "eventPlays", fn := fun _ => fun
  | [d1, d2] => { results := [.lit (.bool false)], args := [d1, d2] }
  | _ => none }
def EventPlaysWrongFalsely : Prop := eventPlaysRow.holds Try.pinned (OpenSpec.ofChange eventPlaysWrong)

/-- 'snubberlaw15.EventRises': WHATEVER THE INPUT: true; the input reads as it did. -/
def eventRisesSpec : ChangeSpec := { name := "eventRises", fn := fun _ => fun
  | [d1, d2, d3] => { results := [.lit (.bool true)], args := [d1, d2, d3] }
  | _ => none }
def eventRisesRow : OpenClaim := { program := "ytbiplmlkgbicnaa", sum := "93574e2b2b5d8a2ab7d09de7d0c79245ad6994a1ad6a1c2d6e3c148a5cf90c3b", func := "snubber/snubberlaw15.EventRises", spec := "eventRises", apart := false }
def EventRisesSaid : Prop := eventRisesRow.holds Try.pinned (OpenSpec.ofChange eventRisesSpec)

/-- ITS FALSE NEIGHBOUR: 'it returns false'. Refute it at one input. -/
def eventRisesWrong : ChangeSpec := { name := "eventRises", fn := fun _ => fun
  | [d1, d2, d3] => { results := [.lit (.bool false)], args := [d1, d2, d3] }
  | _ => none }
def EventRisesWrongFalsely : Prop := eventRisesRow.holds Try.pinned (OpenSpec.ofChange eventRisesWrong)

/- THE SECOND FORM. 'bulk': how many values and letters a reading holds, each counted each time it is reached (what is shared counts as often as it is met; a slice's spare places count too). A statement '..UptoSaid' is the law's where the arguments, and the package variables that the reading takes, are together of bulk at most 1048576: NARROWER than '..Said'. Prove '..Said' where nothing that the law and all that it calls make is longer than what came in: it says more and counts as full. Else prove '..UptoSaid'. A law counts once. -/
mutual
def uptoBulk {H : Type} : DataW H → Nat
  | .lit (.string bytes) => bytes.length + 1
  | .lit _ => 1
  | .nil => 1
  | .ptr d => uptoBulk d + 1
  | .slice elems spare => uptoBulkAll elems + uptoBulkAll spare + 1
  | .agg parts => uptoBulkAll parts + 1
  | .iface _ d => uptoBulk d + 1
  | .map entries => uptoBulkEntries entries + 1
  | .held _ => 1
def uptoBulkAll {H : Type} : List (DataW H) → Nat
  | [] => 0
  | d :: r => uptoBulk d + uptoBulkAll r
def uptoBulkEntries {H : Type} : List (Lit × DataW H) → Nat
  | [] => 0
  | x :: r => uptoBulkEntry x + uptoBulkEntries r
def uptoBulkEntry {H : Type} : Lit × DataW H → Nat
  | (.string bytes, d) => bytes.length + uptoBulk d + 1
  | (_, d) => uptoBulk d + 1
 end
def uptoSmall : (H : Type) → List (DataW H) → Bool := fun _ ds => decide (uptoBulkAll ds ≤ 1048576)
def OpenSpec.upto (s : _root_.Go.ChangeSpec) : _root_.Go.OpenSpec := { _root_.Go.OpenSpec.ofChange s with cond := some uptoSmall }

/-- 'snubberlaw15.EventKinds', WHERE WHAT IT READS IS OF BULK AT MOST 1048576: true; the input reads as it did. -/
def eventKindsUptoRow : OpenClaim := { program := "ytbiplmlkgbicnaa", sum := "93574e2b2b5d8a2ab7d09de7d0c79245ad6994a1ad6a1c2d6e3c148a5cf90c3b", func := "snubber/snubberlaw15.EventKinds", spec := "eventKinds", apart := false, narrowed := true }
def EventKindsUptoSaid : Prop := eventKindsUptoRow.holds Try.pinned (OpenSpec.upto eventKindsSpec)

/-- 'snubberlaw15.EventTold', WHERE WHAT IT READS IS OF BULK AT MOST 1048576: true; the input reads as it did. -/
def eventToldUptoRow : OpenClaim := { program := "ytbiplmlkgbicnaa", sum := "93574e2b2b5d8a2ab7d09de7d0c79245ad6994a1ad6a1c2d6e3c148a5cf90c3b", func := "snubber/snubberlaw15.EventTold", spec := "eventTold", apart := false, narrowed := true }
def EventToldUptoSaid : Prop := eventToldUptoRow.holds Try.pinned (OpenSpec.upto eventToldSpec)

/-- 'snubberlaw15.EventPads', WHERE WHAT IT READS IS OF BULK AT MOST 1048576: true; the input reads as it did. -/
def eventPadsUptoRow : OpenClaim := { program := "ytbiplmlkgbicnaa", sum := "93574e2b2b5d8a2ab7d09de7d0c79245ad6994a1ad6a1c2d6e3c148a5cf90c3b", func := "snubber/snubberlaw15.EventPads", spec := "eventPads", apart := false, narrowed := true }
def EventPadsUptoSaid : Prop := eventPadsUptoRow.holds Try.pinned (OpenSpec.upto eventPadsSpec)

/-- 'snubberlaw03.FrameParses', WHERE WHAT IT READS IS OF BULK AT MOST 1048576: true; the input reads as it did. -/
def frameParsesUptoRow : OpenClaim := { program := "ytbiplmlkgbicnaa", sum := "93574e2b2b5d8a2ab7d09de7d0c79245ad6994a1ad6a1c2d6e3c148a5cf90c3b", func := "snubber/snubberlaw03.FrameParses", spec := "frameParses", apart := false, narrowed := true }
def FrameParsesUptoSaid : Prop := frameParsesUptoRow.holds Try.pinned (OpenSpec.upto frameParsesSpec)

/-- 'snubberlaw03.FrameAgain', WHERE WHAT IT READS IS OF BULK AT MOST 1048576: true; the input reads as it did. -/
def frameAgainUptoRow : OpenClaim := { program := "ytbiplmlkgbicnaa", sum := "93574e2b2b5d8a2ab7d09de7d0c79245ad6994a1ad6a1c2d6e3c148a5cf90c3b", func := "snubber/snubberlaw03.FrameAgain", spec := "frameAgain", apart := false, narrowed := true }
def FrameAgainUptoSaid : Prop := frameAgainUptoRow.holds Try.pinned (OpenSpec.upto frameAgainSpec)

/-- 'snubberlaw03.FrameHeads', WHERE WHAT IT READS IS OF BULK AT MOST 1048576: true; the input reads as it did. -/
def frameHeadsUptoRow : OpenClaim := { program := "ytbiplmlkgbicnaa", sum := "93574e2b2b5d8a2ab7d09de7d0c79245ad6994a1ad6a1c2d6e3c148a5cf90c3b", func := "snubber/snubberlaw03.FrameHeads", spec := "frameHeads", apart := false, narrowed := true }
def FrameHeadsUptoSaid : Prop := frameHeadsUptoRow.holds Try.pinned (OpenSpec.upto frameHeadsSpec)

/-- 'snubberlaw03.FrameCuts', WHERE WHAT IT READS IS OF BULK AT MOST 1048576: true; the input reads as it did. -/
def frameCutsUptoRow : OpenClaim := { program := "ytbiplmlkgbicnaa", sum := "93574e2b2b5d8a2ab7d09de7d0c79245ad6994a1ad6a1c2d6e3c148a5cf90c3b", func := "snubber/snubberlaw03.FrameCuts", spec := "frameCuts", apart := false, narrowed := true }
def FrameCutsUptoSaid : Prop := frameCutsUptoRow.holds Try.pinned (OpenSpec.upto frameCutsSpec)

/-- 'snubberlaw03.FrameBuilds', WHERE WHAT IT READS IS OF BULK AT MOST 1048576: true; the input reads as it did. -/
def frameBuildsUptoRow : OpenClaim := { program := "ytbiplmlkgbicnaa", sum := "93574e2b2b5d8a2ab7d09de7d0c79245ad6994a1ad6a1c2d6e3c148a5cf90c3b", func := "snubber/snubberlaw03.FrameBuilds", spec := "frameBuilds", apart := false, narrowed := true }
def FrameBuildsUptoSaid : Prop := frameBuildsUptoRow.holds Try.pinned (OpenSpec.upto frameBuildsSpec)

/-- 'snubberlaw03.FrameBack', WHERE WHAT IT READS IS OF BULK AT MOST 1048576: true; the input reads as it did. -/
def frameBackUptoRow : OpenClaim := { program := "ytbiplmlkgbicnaa", sum := "93574e2b2b5d8a2ab7d09de7d0c79245ad6994a1ad6a1c2d6e3c148a5cf90c3b", func := "snubber/snubberlaw03.FrameBack", spec := "frameBack", apart := false, narrowed := true }
def FrameBackUptoSaid : Prop := frameBackUptoRow.holds Try.pinned (OpenSpec.upto frameBackSpec)

/-- 'snubberlaw03.FrameTags', WHERE WHAT IT READS IS OF BULK AT MOST 1048576: true; the input reads as it did. -/
def frameTagsUptoRow : OpenClaim := { program := "ytbiplmlkgbicnaa", sum := "93574e2b2b5d8a2ab7d09de7d0c79245ad6994a1ad6a1c2d6e3c148a5cf90c3b", func := "snubber/snubberlaw03.FrameTags", spec := "frameTags", apart := false, narrowed := true }
def FrameTagsUptoSaid : Prop := frameTagsUptoRow.holds Try.pinned (OpenSpec.upto frameTagsSpec)

/-- 'snubberlaw04.PauseBuilds', WHERE WHAT IT READS IS OF BULK AT MOST 1048576: true; the input reads as it did. -/
def pauseBuildsUptoRow : OpenClaim := { program := "ytbiplmlkgbicnaa", sum := "93574e2b2b5d8a2ab7d09de7d0c79245ad6994a1ad6a1c2d6e3c148a5cf90c3b", func := "snubber/snubberlaw04.PauseBuilds", spec := "pauseBuilds", apart := false, narrowed := true }
def PauseBuildsUptoSaid : Prop := pauseBuildsUptoRow.holds Try.pinned (OpenSpec.upto pauseBuildsSpec)

/-- 'snubberlaw04.PauseBack', WHERE WHAT IT READS IS OF BULK AT MOST 1048576: true; the input reads as it did. -/
def pauseBackUptoRow : OpenClaim := { program := "ytbiplmlkgbicnaa", sum := "93574e2b2b5d8a2ab7d09de7d0c79245ad6994a1ad6a1c2d6e3c148a5cf90c3b", func := "snubber/snubberlaw04.PauseBack", spec := "pauseBack", apart := false, narrowed := true }
def PauseBackUptoSaid : Prop := pauseBackUptoRow.holds Try.pinned (OpenSpec.upto pauseBackSpec)

/-- 'snubberlaw04.PauseOthers', WHERE WHAT IT READS IS OF BULK AT MOST 1048576: true; the input reads as it did. -/
def pauseOthersUptoRow : OpenClaim := { program := "ytbiplmlkgbicnaa", sum := "93574e2b2b5d8a2ab7d09de7d0c79245ad6994a1ad6a1c2d6e3c148a5cf90c3b", func := "snubber/snubberlaw04.PauseOthers", spec := "pauseOthers", apart := false, narrowed := true }
def PauseOthersUptoSaid : Prop := pauseOthersUptoRow.holds Try.pinned (OpenSpec.upto pauseOthersSpec)

/-- 'snubberlaw04.PauseSums', WHERE WHAT IT READS IS OF BULK AT MOST 1048576: true; the input reads as it did. -/
def pauseSumsUptoRow : OpenClaim := { program := "ytbiplmlkgbicnaa", sum := "93574e2b2b5d8a2ab7d09de7d0c79245ad6994a1ad6a1c2d6e3c148a5cf90c3b", func := "snubber/snubberlaw04.PauseSums", spec := "pauseSums", apart := false, narrowed := true }
def PauseSumsUptoSaid : Prop := pauseSumsUptoRow.holds Try.pinned (OpenSpec.upto pauseSumsSpec)

/-- 'snubberlaw04.PauseTicks', WHERE WHAT IT READS IS OF BULK AT MOST 1048576: true; the input reads as it did. -/
def pauseTicksUptoRow : OpenClaim := { program := "ytbiplmlkgbicnaa", sum := "93574e2b2b5d8a2ab7d09de7d0c79245ad6994a1ad6a1c2d6e3c148a5cf90c3b", func := "snubber/snubberlaw04.PauseTicks", spec := "pauseTicks", apart := false, narrowed := true }
def PauseTicksUptoSaid : Prop := pauseTicksUptoRow.holds Try.pinned (OpenSpec.upto pauseTicksSpec)

/-- 'snubberlaw04.PauseEnds', WHERE WHAT IT READS IS OF BULK AT MOST 1048576: true; the input reads as it did. -/
def pauseEndsUptoRow : OpenClaim := { program := "ytbiplmlkgbicnaa", sum := "93574e2b2b5d8a2ab7d09de7d0c79245ad6994a1ad6a1c2d6e3c148a5cf90c3b", func := "snubber/snubberlaw04.PauseEnds", spec := "pauseEnds", apart := false, narrowed := true }
def PauseEndsUptoSaid : Prop := pauseEndsUptoRow.holds Try.pinned (OpenSpec.upto pauseEndsSpec)

/-- 'snubberlaw15.EventNobody', WHERE WHAT IT READS IS OF BULK AT MOST 1048576: true; the input reads as it did. -/
def eventNobodyUptoRow : OpenClaim := { program := "ytbiplmlkgbicnaa", sum := "93574e2b2b5d8a2ab7d09de7d0c79245ad6994a1ad6a1c2d6e3c148a5cf90c3b", func := "snubber/snubberlaw15.EventNobody", spec := "eventNobody", apart := false, narrowed := true }
def EventNobodyUptoSaid : Prop := eventNobodyUptoRow.holds Try.pinned (OpenSpec.upto eventNobodySpec)

/-- 'snubberlaw15.EventPlays', WHERE WHAT IT READS IS OF BULK AT MOST 1048576: true; the input reads as it did. -/
def eventPlaysUptoRow : OpenClaim := { program := "ytbiplmlkgbicnaa", sum := "93574e2b2b5d8a2ab7d09de7d0c79245ad6994a1ad6a1c2d6e3c148a5cf90c3b", func := "snubber/snubberlaw15.EventPlays", spec := "eventPlays", apart := false, narrowed := true }
def EventPlaysUptoSaid : Prop := eventPlaysUptoRow.holds Try.pinned (OpenSpec.upto eventPlaysSpec)

/-- 'snubberlaw15.EventRises', WHERE WHAT IT READS IS OF BULK AT MOST 1048576: true; the input reads as it did. -/
def eventRisesUptoRow : OpenClaim := { program := "ytbiplmlkgbicnaa", sum := "93574e2b2b5d8a2ab7d09de7d0c79245ad6994a1ad6a1c2d6e3c148a5cf90c3b", func := "snubber/snubberlaw15.EventRises", spec := "eventRises", apart := false, narrowed := true }
def EventRisesUptoSaid : Prop := eventRisesUptoRow.holds Try.pinned (OpenSpec.upto eventRisesSpec)

end Rows
end Go.Proofs.Ytbiplmlkgbicnaa
