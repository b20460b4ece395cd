/-
  No cell of these rows narrows 'for every input' (looked for: loops, veiled, ifaces, maps, wideKeys, modest, calm, conditions, laid).
  DERIVED. THE GIVEN ROWS OF THIS SEAT. 12 by the template 'for every input the law returns true; each argument reads behind the call as it read before'; 0 by the template 'total and deterministic' (their statements: YtajjmfijmjlacaaTotals.lean).
  GIVEN WITH THE SEED: the statements are not yours to turn. If you find one false, say at which input.
  Laid BY PROGRAM, IN A SANDBOX (cutbox-rows.mjs): the forced cells as the released guide's own fill.sh prints them over the translation 5a91063653b3b218… (all of the seat's roots in one cut). By AI agents, Wed Nov 11 2026. No macro, syntax, notation, axiom, sorry.
-/
import Derived.Test.YtajjmfijmjlacaaChecked
import GoSem.Claim
import GoSem.ClaimJoined
import GoSem.ClaimMapViews
import Derived.JoinedTies
import Derived.KernelRfl
namespace Go.Proofs.Ytajjmfijmjlacaa
/- THE CELL 'sum', in the pinned program and in every row, IS THE sha256 OF THE DUMP (.gsa) THAT YtajjmfijmjlacaaProg.lean LOADS. Nothing in Lean hashes anything: it is a label: what it is worth is what the hold of that sum in a sandbox is worth. -/
noncomputable def Try.pinned : Pinned := { name := "ytajjmfijmjlacaa", sum := "5a91063653b3b21832daffe68d1c9a5e62b634b3eb7b48dce1202b7d75493e70", checked := Try.checked }
namespace Rows
def none {H : Type} : Left H := { results := [], args := [] }

/-- 'laws.FnExactSameSignal': WHATEVER THE INPUT: true; the input reads as it did. -/
def fnExactSameSignalSpec : ChangeSpec := { name := "fnExactSameSignal", fn := fun _ => fun
  | [d1, d2] => { results := [.lit (.bool true)], args := [d1, d2] }
  | _ => none }
def fnExactSameSignalRow : OpenClaim := { program := "ytajjmfijmjlacaa", sum := "5a91063653b3b21832daffe68d1c9a5e62b634b3eb7b48dce1202b7d75493e70", func := "loop.example/g00903/laws.FnExactSameSignal", spec := "fnExactSameSignal", apart := false }
def FnExactSameSignalSaid : Prop := fnExactSameSignalRow.holds Try.pinned (OpenSpec.ofChange fnExactSameSignalSpec)

/-- ITS FALSE NEIGHBOUR: 'it returns false'. Refute it at one input. -/
def fnExactSameSignalWrong : ChangeSpec := { name := "fnExactSameSignal", fn := fun _ => fun
  | [d1, d2] => { results := [.lit (.bool false)], args := [d1, d2] }
  | _ => none }
def FnExactSameSignalWrongFalsely : Prop := fnExactSameSignalRow.holds Try.pinned (OpenSpec.ofChange fnExactSameSignalWrong)

/-- 'laws.FnExactValidSignal': WHATEVER THE INPUT: true; the input reads as it did. -/
def fnExactValidSignalSpec : ChangeSpec := { name := "fnExactValidSignal", fn := fun _ => fun
  | [d] => { results := [.lit (.bool true)], args := [d] }
  | _ => none }
def fnExactValidSignalRow : OpenClaim := { program := "ytajjmfijmjlacaa", sum := "5a91063653b3b21832daffe68d1c9a5e62b634b3eb7b48dce1202b7d75493e70", func := "loop.example/g00903/laws.FnExactValidSignal", spec := "fnExactValidSignal", apart := false }
def FnExactValidSignalSaid : Prop := fnExactValidSignalRow.holds Try.pinned (OpenSpec.ofChange fnExactValidSignalSpec)

/-- ITS FALSE NEIGHBOUR: 'it returns false'. Refute it at one input. -/
def fnExactValidSignalWrong : ChangeSpec := { name := "fnExactValidSignal", fn := fun _ => fun
  | [d] => { results := [.lit (.bool false)], args := [d] }
  | _ => none }
def FnExactValidSignalWrongFalsely : Prop := fnExactValidSignalRow.holds Try.pinned (OpenSpec.ofChange fnExactValidSignalWrong)

/-- 'laws.FnExactValidPoly': WHATEVER THE INPUT: true; the input reads as it did. -/
def fnExactValidPolySpec : ChangeSpec := { name := "fnExactValidPoly", fn := fun _ => fun
  | [d] => { results := [.lit (.bool true)], args := [d] }
  | _ => none }
def fnExactValidPolyRow : OpenClaim := { program := "ytajjmfijmjlacaa", sum := "5a91063653b3b21832daffe68d1c9a5e62b634b3eb7b48dce1202b7d75493e70", func := "loop.example/g00903/laws.FnExactValidPoly", spec := "fnExactValidPoly", apart := false }
def FnExactValidPolySaid : Prop := fnExactValidPolyRow.holds Try.pinned (OpenSpec.ofChange fnExactValidPolySpec)

/-- ITS FALSE NEIGHBOUR: 'it returns false'. Refute it at one input. -/
def fnExactValidPolyWrong : ChangeSpec := { name := "fnExactValidPoly", fn := fun _ => fun
  | [d] => { results := [.lit (.bool false)], args := [d] }
  | _ => none }
def FnExactValidPolyWrongFalsely : Prop := fnExactValidPolyRow.holds Try.pinned (OpenSpec.ofChange fnExactValidPolyWrong)

/-- 'laws.FnExactPeakOf': WHATEVER THE INPUT: true; the input reads as it did. -/
def fnExactPeakOfSpec : ChangeSpec := { name := "fnExactPeakOf", fn := fun _ => fun
  | [d] => { results := [.lit (.bool true)], args := [d] }
  | _ => none }
def fnExactPeakOfRow : OpenClaim := { program := "ytajjmfijmjlacaa", sum := "5a91063653b3b21832daffe68d1c9a5e62b634b3eb7b48dce1202b7d75493e70", func := "loop.example/g00903/laws.FnExactPeakOf", spec := "fnExactPeakOf", apart := false }
def FnExactPeakOfSaid : Prop := fnExactPeakOfRow.holds Try.pinned (OpenSpec.ofChange fnExactPeakOfSpec)

/-- ITS FALSE NEIGHBOUR: 'it returns false'. Refute it at one input. -/
def fnExactPeakOfWrong : ChangeSpec := { name := "fnExactPeakOf", fn := fun _ => fun
  | [d] => { results := [.lit (.bool false)], args := [d] }
  | _ => none }
def FnExactPeakOfWrongFalsely : Prop := fnExactPeakOfRow.holds Try.pinned (OpenSpec.ofChange fnExactPeakOfWrong)

/-- 'laws.FnExactEvalPoly': WHATEVER THE INPUT: true; the input reads as it did. -/
def fnExactEvalPolySpec : ChangeSpec := { name := "fnExactEvalPoly", fn := fun _ => fun
  | [d1, d2] => { results := [.lit (.bool true)], args := [d1, d2] }
  | _ => none }
def fnExactEvalPolyRow : OpenClaim := { program := "ytajjmfijmjlacaa", sum := "5a91063653b3b21832daffe68d1c9a5e62b634b3eb7b48dce1202b7d75493e70", func := "loop.example/g00903/laws.FnExactEvalPoly", spec := "fnExactEvalPoly", apart := false }
def FnExactEvalPolySaid : Prop := fnExactEvalPolyRow.holds Try.pinned (OpenSpec.ofChange fnExactEvalPolySpec)

/-- ITS FALSE NEIGHBOUR: 'it returns false'. Refute it at one input. -/
def fnExactEvalPolyWrong : ChangeSpec := { name := "fnExactEvalPoly", fn := fun _ => fun
  | [d1, d2] => { results := [.lit (.bool false)], args := [d1, d2] }
  | _ => none }
def FnExactEvalPolyWrongFalsely : Prop := fnExactEvalPolyRow.holds Try.pinned (OpenSpec.ofChange fnExactEvalPolyWrong)

/-- 'laws.FnExactDelaySignal': WHATEVER THE INPUT: true; the input reads as it did. -/
def fnExactDelaySignalSpec : ChangeSpec := { name := "fnExactDelaySignal", fn := fun _ => fun
  | [d1, d2] => { results := [.lit (.bool true)], args := [d1, d2] }
  | _ => none }
def fnExactDelaySignalRow : OpenClaim := { program := "ytajjmfijmjlacaa", sum := "5a91063653b3b21832daffe68d1c9a5e62b634b3eb7b48dce1202b7d75493e70", func := "loop.example/g00903/laws.FnExactDelaySignal", spec := "fnExactDelaySignal", apart := false }
def FnExactDelaySignalSaid : Prop := fnExactDelaySignalRow.holds Try.pinned (OpenSpec.ofChange fnExactDelaySignalSpec)

/-- ITS FALSE NEIGHBOUR: 'it returns false'. Refute it at one input. -/
def fnExactDelaySignalWrong : ChangeSpec := { name := "fnExactDelaySignal", fn := fun _ => fun
  | [d1, d2] => { results := [.lit (.bool false)], args := [d1, d2] }
  | _ => none }
def FnExactDelaySignalWrongFalsely : Prop := fnExactDelaySignalRow.holds Try.pinned (OpenSpec.ofChange fnExactDelaySignalWrong)

/-- 'laws.FnExactTrimPoly': WHATEVER THE INPUT: true; the input reads as it did. -/
def fnExactTrimPolySpec : ChangeSpec := { name := "fnExactTrimPoly", fn := fun _ => fun
  | [d] => { results := [.lit (.bool true)], args := [d] }
  | _ => none }
def fnExactTrimPolyRow : OpenClaim := { program := "ytajjmfijmjlacaa", sum := "5a91063653b3b21832daffe68d1c9a5e62b634b3eb7b48dce1202b7d75493e70", func := "loop.example/g00903/laws.FnExactTrimPoly", spec := "fnExactTrimPoly", apart := false }
def FnExactTrimPolySaid : Prop := fnExactTrimPolyRow.holds Try.pinned (OpenSpec.ofChange fnExactTrimPolySpec)

/-- ITS FALSE NEIGHBOUR: 'it returns false'. Refute it at one input. -/
def fnExactTrimPolyWrong : ChangeSpec := { name := "fnExactTrimPoly", fn := fun _ => fun
  | [d] => { results := [.lit (.bool false)], args := [d] }
  | _ => none }
def FnExactTrimPolyWrongFalsely : Prop := fnExactTrimPolyRow.holds Try.pinned (OpenSpec.ofChange fnExactTrimPolyWrong)

/-- 'laws.FnExactSliceSignal': WHATEVER THE INPUT: true; the input reads as it did. -/
def fnExactSliceSignalSpec : ChangeSpec := { name := "fnExactSliceSignal", fn := fun _ => fun
  | [d1, d2, d3] => { results := [.lit (.bool true)], args := [d1, d2, d3] }
  | _ => none }
def fnExactSliceSignalRow : OpenClaim := { program := "ytajjmfijmjlacaa", sum := "5a91063653b3b21832daffe68d1c9a5e62b634b3eb7b48dce1202b7d75493e70", func := "loop.example/g00903/laws.FnExactSliceSignal", spec := "fnExactSliceSignal", apart := false }
def FnExactSliceSignalSaid : Prop := fnExactSliceSignalRow.holds Try.pinned (OpenSpec.ofChange fnExactSliceSignalSpec)

/-- ITS FALSE NEIGHBOUR: 'it returns false'. Refute it at one input. -/
def fnExactSliceSignalWrong : ChangeSpec := { name := "fnExactSliceSignal", fn := fun _ => fun
  | [d1, d2, d3] => { results := [.lit (.bool false)], args := [d1, d2, d3] }
  | _ => none }
def FnExactSliceSignalWrongFalsely : Prop := fnExactSliceSignalRow.holds Try.pinned (OpenSpec.ofChange fnExactSliceSignalWrong)

/-- 'laws.FnExactAddSignals': WHATEVER THE INPUT: true; the input reads as it did. -/
def fnExactAddSignalsSpec : ChangeSpec := { name := "fnExactAddSignals", fn := fun _ => fun
  | [d1, d2] => { results := [.lit (.bool true)], args := [d1, d2] }
  | _ => none }
def fnExactAddSignalsRow : OpenClaim := { program := "ytajjmfijmjlacaa", sum := "5a91063653b3b21832daffe68d1c9a5e62b634b3eb7b48dce1202b7d75493e70", func := "loop.example/g00903/laws.FnExactAddSignals", spec := "fnExactAddSignals", apart := false }
def FnExactAddSignalsSaid : Prop := fnExactAddSignalsRow.holds Try.pinned (OpenSpec.ofChange fnExactAddSignalsSpec)

/-- ITS FALSE NEIGHBOUR: 'it returns false'. Refute it at one input. -/
def fnExactAddSignalsWrong : ChangeSpec := { name := "fnExactAddSignals", fn := fun _ => fun
  | [d1, d2] => { results := [.lit (.bool false)], args := [d1, d2] }
  | _ => none }
def FnExactAddSignalsWrongFalsely : Prop := fnExactAddSignalsRow.holds Try.pinned (OpenSpec.ofChange fnExactAddSignalsWrong)

/-- 'laws.FnExactSubSignals': WHATEVER THE INPUT: true; the input reads as it did. -/
def fnExactSubSignalsSpec : ChangeSpec := { name := "fnExactSubSignals", fn := fun _ => fun
  | [d1, d2] => { results := [.lit (.bool true)], args := [d1, d2] }
  | _ => none }
def fnExactSubSignalsRow : OpenClaim := { program := "ytajjmfijmjlacaa", sum := "5a91063653b3b21832daffe68d1c9a5e62b634b3eb7b48dce1202b7d75493e70", func := "loop.example/g00903/laws.FnExactSubSignals", spec := "fnExactSubSignals", apart := false }
def FnExactSubSignalsSaid : Prop := fnExactSubSignalsRow.holds Try.pinned (OpenSpec.ofChange fnExactSubSignalsSpec)

/-- ITS FALSE NEIGHBOUR: 'it returns false'. Refute it at one input. -/
def fnExactSubSignalsWrong : ChangeSpec := { name := "fnExactSubSignals", fn := fun _ => fun
  | [d1, d2] => { results := [.lit (.bool false)], args := [d1, d2] }
  | _ => none }
def FnExactSubSignalsWrongFalsely : Prop := fnExactSubSignalsRow.holds Try.pinned (OpenSpec.ofChange fnExactSubSignalsWrong)

/-- 'laws.FnExactScaleSignal': WHATEVER THE INPUT: true; the input reads as it did. -/
def fnExactScaleSignalSpec : ChangeSpec := { name := "fnExactScaleSignal", fn := fun _ => fun
  | [d1, d2] => { results := [.lit (.bool true)], args := [d1, d2] }
  | _ => none }
def fnExactScaleSignalRow : OpenClaim := { program := "ytajjmfijmjlacaa", sum := "5a91063653b3b21832daffe68d1c9a5e62b634b3eb7b48dce1202b7d75493e70", func := "loop.example/g00903/laws.FnExactScaleSignal", spec := "fnExactScaleSignal", apart := false }
def FnExactScaleSignalSaid : Prop := fnExactScaleSignalRow.holds Try.pinned (OpenSpec.ofChange fnExactScaleSignalSpec)

/-- ITS FALSE NEIGHBOUR: 'it returns false'. Refute it at one input. -/
def fnExactScaleSignalWrong : ChangeSpec := { name := "fnExactScaleSignal", fn := fun _ => fun
  | [d1, d2] => { results := [.lit (.bool false)], args := [d1, d2] }
  | _ => none }
def FnExactScaleSignalWrongFalsely : Prop := fnExactScaleSignalRow.holds Try.pinned (OpenSpec.ofChange fnExactScaleSignalWrong)

/-- 'laws.FnExactJoinSignals': WHATEVER THE INPUT: true; the input reads as it did. -/
def fnExactJoinSignalsSpec : ChangeSpec := { name := "fnExactJoinSignals", fn := fun _ => fun
  | [d] => { results := [.lit (.bool true)], args := [d] }
  | _ => none }
def fnExactJoinSignalsRow : OpenClaim := { program := "ytajjmfijmjlacaa", sum := "5a91063653b3b21832daffe68d1c9a5e62b634b3eb7b48dce1202b7d75493e70", func := "loop.example/g00903/laws.FnExactJoinSignals", spec := "fnExactJoinSignals", apart := false }
def FnExactJoinSignalsSaid : Prop := fnExactJoinSignalsRow.holds Try.pinned (OpenSpec.ofChange fnExactJoinSignalsSpec)

/-- ITS FALSE NEIGHBOUR: 'it returns false'. Refute it at one input. -/
def fnExactJoinSignalsWrong : ChangeSpec := { name := "fnExactJoinSignals", fn := fun _ => fun
  | [d] => { results := [.lit (.bool false)], args := [d] }
  | _ => none }
def FnExactJoinSignalsWrongFalsely : Prop := fnExactJoinSignalsRow.holds Try.pinned (OpenSpec.ofChange fnExactJoinSignalsWrong)

/- THE SECOND FORM. 'bulk': how many values and letters a reading holds, each counted each time it is reached (what is shared counts as often as it is met; a slice's spare places count too). A statement '..UptoSaid' is the law's where the arguments, and the package variables that the reading takes, are together of bulk at most 1048576: NARROWER than '..Said'. Prove '..Said' where nothing that the law and all that it calls make is longer than what came in: it says more and counts as full. Else prove '..UptoSaid'. A law counts once. -/
mutual
def uptoBulk {H : Type} : DataW H → Nat
  | .lit (.string bytes) => bytes.length + 1
  | .lit _ => 1
  | .nil => 1
  | .ptr d => uptoBulk d + 1
  | .slice elems spare => uptoBulkAll elems + uptoBulkAll spare + 1
  | .agg parts => uptoBulkAll parts + 1
  | .iface _ d => uptoBulk d + 1
  | .map entries => uptoBulkEntries entries + 1
  | .held _ => 1
def uptoBulkAll {H : Type} : List (DataW H) → Nat
  | [] => 0
  | d :: r => uptoBulk d + uptoBulkAll r
def uptoBulkEntries {H : Type} : List (Lit × DataW H) → Nat
  | [] => 0
  | x :: r => uptoBulkEntry x + uptoBulkEntries r
def uptoBulkEntry {H : Type} : Lit × DataW H → Nat
  | (.string bytes, d) => bytes.length + uptoBulk d + 1
  | (_, d) => uptoBulk d + 1
 end
def uptoSmall : (H : Type) → List (DataW H) → Bool := fun _ ds => decide (uptoBulkAll ds ≤ 1048576)
def OpenSpec.upto (s : _root_.Go.ChangeSpec) : _root_.Go.OpenSpec := { _root_.Go.OpenSpec.ofChange s with cond := some uptoSmall }

/-- 'laws.FnExactSameSignal', WHERE WHAT IT READS IS OF BULK AT MOST 1048576: true; the input reads as it did. -/
def fnExactSameSignalUptoRow : OpenClaim := { program := "ytajjmfijmjlacaa", sum := "5a91063653b3b21832daffe68d1c9a5e62b634b3eb7b48dce1202b7d75493e70", func := "loop.example/g00903/laws.FnExactSameSignal", spec := "fnExactSameSignal", apart := false, narrowed := true }
def FnExactSameSignalUptoSaid : Prop := fnExactSameSignalUptoRow.holds Try.pinned (OpenSpec.upto fnExactSameSignalSpec)

/-- 'laws.FnExactValidSignal', WHERE WHAT IT READS IS OF BULK AT MOST 1048576: true; the input reads as it did. -/
def fnExactValidSignalUptoRow : OpenClaim := { program := "ytajjmfijmjlacaa", sum := "5a91063653b3b21832daffe68d1c9a5e62b634b3eb7b48dce1202b7d75493e70", func := "loop.example/g00903/laws.FnExactValidSignal", spec := "fnExactValidSignal", apart := false, narrowed := true }
def FnExactValidSignalUptoSaid : Prop := fnExactValidSignalUptoRow.holds Try.pinned (OpenSpec.upto fnExactValidSignalSpec)

/-- 'laws.FnExactValidPoly', WHERE WHAT IT READS IS OF BULK AT MOST 1048576: true; the input reads as it did. -/
def fnExactValidPolyUptoRow : OpenClaim := { program := "ytajjmfijmjlacaa", sum := "5a91063653b3b21832daffe68d1c9a5e62b634b3eb7b48dce1202b7d75493e70", func := "loop.example/g00903/laws.FnExactValidPoly", spec := "fnExactValidPoly", apart := false, narrowed := true }
def FnExactValidPolyUptoSaid : Prop := fnExactValidPolyUptoRow.holds Try.pinned (OpenSpec.upto fnExactValidPolySpec)

/-- 'laws.FnExactPeakOf', WHERE WHAT IT READS IS OF BULK AT MOST 1048576: true; the input reads as it did. -/
def fnExactPeakOfUptoRow : OpenClaim := { program := "ytajjmfijmjlacaa", sum := "5a91063653b3b21832daffe68d1c9a5e62b634b3eb7b48dce1202b7d75493e70", func := "loop.example/g00903/laws.FnExactPeakOf", spec := "fnExactPeakOf", apart := false, narrowed := true }
def FnExactPeakOfUptoSaid : Prop := fnExactPeakOfUptoRow.holds Try.pinned (OpenSpec.upto fnExactPeakOfSpec)

/-- 'laws.FnExactEvalPoly', WHERE WHAT IT READS IS OF BULK AT MOST 1048576: true; the input reads as it did. -/
def fnExactEvalPolyUptoRow : OpenClaim := { program := "ytajjmfijmjlacaa", sum := "5a91063653b3b21832daffe68d1c9a5e62b634b3eb7b48dce1202b7d75493e70", func := "loop.example/g00903/laws.FnExactEvalPoly", spec := "fnExactEvalPoly", apart := false, narrowed := true }
def FnExactEvalPolyUptoSaid : Prop := fnExactEvalPolyUptoRow.holds Try.pinned (OpenSpec.upto fnExactEvalPolySpec)

/-- 'laws.FnExactDelaySignal', WHERE WHAT IT READS IS OF BULK AT MOST 1048576: true; the input reads as it did. -/
def fnExactDelaySignalUptoRow : OpenClaim := { program := "ytajjmfijmjlacaa", sum := "5a91063653b3b21832daffe68d1c9a5e62b634b3eb7b48dce1202b7d75493e70", func := "loop.example/g00903/laws.FnExactDelaySignal", spec := "fnExactDelaySignal", apart := false, narrowed := true }
def FnExactDelaySignalUptoSaid : Prop := fnExactDelaySignalUptoRow.holds Try.pinned (OpenSpec.upto fnExactDelaySignalSpec)

/-- 'laws.FnExactTrimPoly', WHERE WHAT IT READS IS OF BULK AT MOST 1048576: true; the input reads as it did. -/
def fnExactTrimPolyUptoRow : OpenClaim := { program := "ytajjmfijmjlacaa", sum := "5a91063653b3b21832daffe68d1c9a5e62b634b3eb7b48dce1202b7d75493e70", func := "loop.example/g00903/laws.FnExactTrimPoly", spec := "fnExactTrimPoly", apart := false, narrowed := true }
def FnExactTrimPolyUptoSaid : Prop := fnExactTrimPolyUptoRow.holds Try.pinned (OpenSpec.upto fnExactTrimPolySpec)

/-- 'laws.FnExactSliceSignal', WHERE WHAT IT READS IS OF BULK AT MOST 1048576: true; the input reads as it did. -/
def fnExactSliceSignalUptoRow : OpenClaim := { program := "ytajjmfijmjlacaa", sum := "5a91063653b3b21832daffe68d1c9a5e62b634b3eb7b48dce1202b7d75493e70", func := "loop.example/g00903/laws.FnExactSliceSignal", spec := "fnExactSliceSignal", apart := false, narrowed := true }
def FnExactSliceSignalUptoSaid : Prop := fnExactSliceSignalUptoRow.holds Try.pinned (OpenSpec.upto fnExactSliceSignalSpec)

/-- 'laws.FnExactAddSignals', WHERE WHAT IT READS IS OF BULK AT MOST 1048576: true; the input reads as it did. -/
def fnExactAddSignalsUptoRow : OpenClaim := { program := "ytajjmfijmjlacaa", sum := "5a91063653b3b21832daffe68d1c9a5e62b634b3eb7b48dce1202b7d75493e70", func := "loop.example/g00903/laws.FnExactAddSignals", spec := "fnExactAddSignals", apart := false, narrowed := true }
def FnExactAddSignalsUptoSaid : Prop := fnExactAddSignalsUptoRow.holds Try.pinned (OpenSpec.upto fnExactAddSignalsSpec)

/-- 'laws.FnExactSubSignals', WHERE WHAT IT READS IS OF BULK AT MOST 1048576: true; the input reads as it did. -/
def fnExactSubSignalsUptoRow : OpenClaim := { program := "ytajjmfijmjlacaa", sum := "5a91063653b3b21832daffe68d1c9a5e62b634b3eb7b48dce1202b7d75493e70", func := "loop.example/g00903/laws.FnExactSubSignals", spec := "fnExactSubSignals", apart := false, narrowed := true }
def FnExactSubSignalsUptoSaid : Prop := fnExactSubSignalsUptoRow.holds Try.pinned (OpenSpec.upto fnExactSubSignalsSpec)

/-- 'laws.FnExactScaleSignal', WHERE WHAT IT READS IS OF BULK AT MOST 1048576: true; the input reads as it did. -/
def fnExactScaleSignalUptoRow : OpenClaim := { program := "ytajjmfijmjlacaa", sum := "5a91063653b3b21832daffe68d1c9a5e62b634b3eb7b48dce1202b7d75493e70", func := "loop.example/g00903/laws.FnExactScaleSignal", spec := "fnExactScaleSignal", apart := false, narrowed := true }
def FnExactScaleSignalUptoSaid : Prop := fnExactScaleSignalUptoRow.holds Try.pinned (OpenSpec.upto fnExactScaleSignalSpec)

/-- 'laws.FnExactJoinSignals', WHERE WHAT IT READS IS OF BULK AT MOST 1048576: true; the input reads as it did. -/
def fnExactJoinSignalsUptoRow : OpenClaim := { program := "ytajjmfijmjlacaa", sum := "5a91063653b3b21832daffe68d1c9a5e62b634b3eb7b48dce1202b7d75493e70", func := "loop.example/g00903/laws.FnExactJoinSignals", spec := "fnExactJoinSignals", apart := false, narrowed := true }
def FnExactJoinSignalsUptoSaid : Prop := fnExactJoinSignalsUptoRow.holds Try.pinned (OpenSpec.upto fnExactJoinSignalsSpec)

end Rows
end Go.Proofs.Ytajjmfijmjlacaa
