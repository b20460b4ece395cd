/-
  No cell of these rows narrows 'for every input' (looked for: loops, veiled, ifaces, maps, wideKeys, modest, calm, conditions, laid).
  DERIVED. THE GIVEN ROWS OF THIS SEAT. 6 by the template 'for every input the law returns true; each argument reads behind the call as it read before'; 0 by the template 'total and deterministic' (their statements: YtfgdkecmhgkpfaaTotals.lean).
  GIVEN WITH THE SEED: the statements are not yours to turn. If you find one false, say at which input.
  Laid BY PROGRAM, IN A SANDBOX (cutbox-rows.mjs): the forced cells as the released guide's own fill.sh prints them over the translation f4b1595a0ac23b51… (all of the seat's roots in one cut). By AI agents, Wed Nov 11 2026. No macro, syntax, notation, axiom, sorry.
-/
import Derived.Test.YtfgdkecmhgkpfaaChecked
import GoSem.Claim
import GoSem.ClaimJoined
import GoSem.ClaimMapViews
import Derived.JoinedTies
import Derived.KernelRfl
namespace Go.Proofs.Ytfgdkecmhgkpfaa
/- THE CELL 'sum', in the pinned program and in every row, IS THE sha256 OF THE DUMP (.gsa) THAT YtfgdkecmhgkpfaaProg.lean LOADS. Nothing in Lean hashes anything: it is a label: what it is worth is what the hold of that sum in a sandbox is worth. -/
noncomputable def Try.pinned : Pinned := { name := "ytfgdkecmhgkpfaa", sum := "f4b1595a0ac23b512110ccec44351a2cfb8a5d61297e6c1b5a25defdc367ff34", checked := Try.checked }
namespace Rows
def none {H : Type} : Left H := { results := [], args := [] }

/-- 'laws.FnExactEqualTransfers': WHATEVER THE INPUT: true; the input reads as it did. -/
def fnExactEqualTransfersSpec : ChangeSpec := { name := "fnExactEqualTransfers", fn := fun _ => fun
  | [d1, d2] => { results := [.lit (.bool true)], args := [d1, d2] }
  | _ => none }
def fnExactEqualTransfersRow : OpenClaim := { program := "ytfgdkecmhgkpfaa", sum := "f4b1595a0ac23b512110ccec44351a2cfb8a5d61297e6c1b5a25defdc367ff34", func := "loop.example/g00903/laws.FnExactEqualTransfers", spec := "fnExactEqualTransfers", apart := false }
def FnExactEqualTransfersSaid : Prop := fnExactEqualTransfersRow.holds Try.pinned (OpenSpec.ofChange fnExactEqualTransfersSpec)

/-- ITS FALSE NEIGHBOUR: 'it returns false'. Refute it at one input. -/
def fnExactEqualTransfersWrong : ChangeSpec := { name := "fnExactEqualTransfers", fn := fun _ => fun
  | [d1, d2] => { results := [.lit (.bool false)], args := [d1, d2] }
  | _ => none }
def FnExactEqualTransfersWrongFalsely : Prop := fnExactEqualTransfersRow.holds Try.pinned (OpenSpec.ofChange fnExactEqualTransfersWrong)

/-- 'laws.FnExactResponseOf': WHATEVER THE INPUT: true; the input reads as it did. -/
def fnExactResponseOfSpec : ChangeSpec := { name := "fnExactResponseOf", fn := fun _ => fun
  | [d1, d2] => { results := [.lit (.bool true)], args := [d1, d2] }
  | _ => none }
def fnExactResponseOfRow : OpenClaim := { program := "ytfgdkecmhgkpfaa", sum := "f4b1595a0ac23b512110ccec44351a2cfb8a5d61297e6c1b5a25defdc367ff34", func := "loop.example/g00903/laws.FnExactResponseOf", spec := "fnExactResponseOf", apart := false }
def FnExactResponseOfSaid : Prop := fnExactResponseOfRow.holds Try.pinned (OpenSpec.ofChange fnExactResponseOfSpec)

/-- ITS FALSE NEIGHBOUR: 'it returns false'. Refute it at one input. -/
def fnExactResponseOfWrong : ChangeSpec := { name := "fnExactResponseOf", fn := fun _ => fun
  | [d1, d2] => { results := [.lit (.bool false)], args := [d1, d2] }
  | _ => none }
def FnExactResponseOfWrongFalsely : Prop := fnExactResponseOfRow.holds Try.pinned (OpenSpec.ofChange fnExactResponseOfWrong)

/-- 'laws.FnExactFilterSignal': WHATEVER THE INPUT: true; the input reads as it did. -/
def fnExactFilterSignalSpec : ChangeSpec := { name := "fnExactFilterSignal", fn := fun _ => fun
  | [d1, d2] => { results := [.lit (.bool true)], args := [d1, d2] }
  | _ => none }
def fnExactFilterSignalRow : OpenClaim := { program := "ytfgdkecmhgkpfaa", sum := "f4b1595a0ac23b512110ccec44351a2cfb8a5d61297e6c1b5a25defdc367ff34", func := "loop.example/g00903/laws.FnExactFilterSignal", spec := "fnExactFilterSignal", apart := false }
def FnExactFilterSignalSaid : Prop := fnExactFilterSignalRow.holds Try.pinned (OpenSpec.ofChange fnExactFilterSignalSpec)

/-- ITS FALSE NEIGHBOUR: 'it returns false'. Refute it at one input. -/
def fnExactFilterSignalWrong : ChangeSpec := { name := "fnExactFilterSignal", fn := fun _ => fun
  | [d1, d2] => { results := [.lit (.bool false)], args := [d1, d2] }
  | _ => none }
def FnExactFilterSignalWrongFalsely : Prop := fnExactFilterSignalRow.holds Try.pinned (OpenSpec.ofChange fnExactFilterSignalWrong)

/-- 'laws.FnExactCascadeTransfers': WHATEVER THE INPUT: true; the input reads as it did. -/
def fnExactCascadeTransfersSpec : ChangeSpec := { name := "fnExactCascadeTransfers", fn := fun _ => fun
  | [d1, d2] => { results := [.lit (.bool true)], args := [d1, d2] }
  | _ => none }
def fnExactCascadeTransfersRow : OpenClaim := { program := "ytfgdkecmhgkpfaa", sum := "f4b1595a0ac23b512110ccec44351a2cfb8a5d61297e6c1b5a25defdc367ff34", func := "loop.example/g00903/laws.FnExactCascadeTransfers", spec := "fnExactCascadeTransfers", apart := false }
def FnExactCascadeTransfersSaid : Prop := fnExactCascadeTransfersRow.holds Try.pinned (OpenSpec.ofChange fnExactCascadeTransfersSpec)

/-- ITS FALSE NEIGHBOUR: 'it returns false'. Refute it at one input. -/
def fnExactCascadeTransfersWrong : ChangeSpec := { name := "fnExactCascadeTransfers", fn := fun _ => fun
  | [d1, d2] => { results := [.lit (.bool false)], args := [d1, d2] }
  | _ => none }
def FnExactCascadeTransfersWrongFalsely : Prop := fnExactCascadeTransfersRow.holds Try.pinned (OpenSpec.ofChange fnExactCascadeTransfersWrong)

/-- 'laws.FnExactParallelTransfers': WHATEVER THE INPUT: true; the input reads as it did. -/
def fnExactParallelTransfersSpec : ChangeSpec := { name := "fnExactParallelTransfers", fn := fun _ => fun
  | [d1, d2] => { results := [.lit (.bool true)], args := [d1, d2] }
  | _ => none }
def fnExactParallelTransfersRow : OpenClaim := { program := "ytfgdkecmhgkpfaa", sum := "f4b1595a0ac23b512110ccec44351a2cfb8a5d61297e6c1b5a25defdc367ff34", func := "loop.example/g00903/laws.FnExactParallelTransfers", spec := "fnExactParallelTransfers", apart := false }
def FnExactParallelTransfersSaid : Prop := fnExactParallelTransfersRow.holds Try.pinned (OpenSpec.ofChange fnExactParallelTransfersSpec)

/-- ITS FALSE NEIGHBOUR: 'it returns false'. Refute it at one input. -/
def fnExactParallelTransfersWrong : ChangeSpec := { name := "fnExactParallelTransfers", fn := fun _ => fun
  | [d1, d2] => { results := [.lit (.bool false)], args := [d1, d2] }
  | _ => none }
def FnExactParallelTransfersWrongFalsely : Prop := fnExactParallelTransfersRow.holds Try.pinned (OpenSpec.ofChange fnExactParallelTransfersWrong)

/-- 'laws.FnExactFeedbackTransfer': WHATEVER THE INPUT: true; the input reads as it did. -/
def fnExactFeedbackTransferSpec : ChangeSpec := { name := "fnExactFeedbackTransfer", fn := fun _ => fun
  | [d1, d2] => { results := [.lit (.bool true)], args := [d1, d2] }
  | _ => none }
def fnExactFeedbackTransferRow : OpenClaim := { program := "ytfgdkecmhgkpfaa", sum := "f4b1595a0ac23b512110ccec44351a2cfb8a5d61297e6c1b5a25defdc367ff34", func := "loop.example/g00903/laws.FnExactFeedbackTransfer", spec := "fnExactFeedbackTransfer", apart := false }
def FnExactFeedbackTransferSaid : Prop := fnExactFeedbackTransferRow.holds Try.pinned (OpenSpec.ofChange fnExactFeedbackTransferSpec)

/-- ITS FALSE NEIGHBOUR: 'it returns false'. Refute it at one input. -/
def fnExactFeedbackTransferWrong : ChangeSpec := { name := "fnExactFeedbackTransfer", fn := fun _ => fun
  | [d1, d2] => { results := [.lit (.bool false)], args := [d1, d2] }
  | _ => none }
def FnExactFeedbackTransferWrongFalsely : Prop := fnExactFeedbackTransferRow.holds Try.pinned (OpenSpec.ofChange fnExactFeedbackTransferWrong)

/- THE SECOND FORM. 'bulk': how many values and letters a reading holds, each counted each time it is reached (what is shared counts as often as it is met; a slice's spare places count too). A statement '..UptoSaid' is the law's where the arguments, and the package variables that the reading takes, are together of bulk at most 1048576: NARROWER than '..Said'. Prove '..Said' where nothing that the law and all that it calls make is longer than what came in: it says more and counts as full. Else prove '..UptoSaid'. A law counts once. -/
mutual
def uptoBulk {H : Type} : DataW H → Nat
  | .lit (.string bytes) => bytes.length + 1
  | .lit _ => 1
  | .nil => 1
  | .ptr d => uptoBulk d + 1
  | .slice elems spare => uptoBulkAll elems + uptoBulkAll spare + 1
  | .agg parts => uptoBulkAll parts + 1
  | .iface _ d => uptoBulk d + 1
  | .map entries => uptoBulkEntries entries + 1
  | .held _ => 1
def uptoBulkAll {H : Type} : List (DataW H) → Nat
  | [] => 0
  | d :: r => uptoBulk d + uptoBulkAll r
def uptoBulkEntries {H : Type} : List (Lit × DataW H) → Nat
  | [] => 0
  | x :: r => uptoBulkEntry x + uptoBulkEntries r
def uptoBulkEntry {H : Type} : Lit × DataW H → Nat
  | (.string bytes, d) => bytes.length + uptoBulk d + 1
  | (_, d) => uptoBulk d + 1
 end
def uptoSmall : (H : Type) → List (DataW H) → Bool := fun _ ds => decide (uptoBulkAll ds ≤ 1048576)
def OpenSpec.upto (s : _root_.Go.ChangeSpec) : _root_.Go.OpenSpec := { _root_.Go.OpenSpec.ofChange s with cond := some uptoSmall }

/-- 'laws.FnExactEqualTransfers', WHERE WHAT IT READS IS OF BULK AT MOST 1048576: true; the input reads as it did. -/
def fnExactEqualTransfersUptoRow : OpenClaim := { program := "ytfgdkecmhgkpfaa", sum := "f4b1595a0ac23b512110ccec44351a2cfb8a5d61297e6c1b5a25defdc367ff34", func := "loop.example/g00903/laws.FnExactEqualTransfers", spec := "fnExactEqualTransfers", apart := false, narrowed := true }
def FnExactEqualTransfersUptoSaid : Prop := fnExactEqualTransfersUptoRow.holds Try.pinned (OpenSpec.upto fnExactEqualTransfersSpec)

/-- 'laws.FnExactResponseOf', WHERE WHAT IT READS IS OF BULK AT MOST 1048576: true; the input reads as it did. -/
def fnExactResponseOfUptoRow : OpenClaim := { program := "ytfgdkecmhgkpfaa", sum := "f4b1595a0ac23b512110ccec44351a2cfb8a5d61297e6c1b5a25defdc367ff34", func := "loop.example/g00903/laws.FnExactResponseOf", spec := "fnExactResponseOf", apart := false, narrowed := true }
def FnExactResponseOfUptoSaid : Prop := fnExactResponseOfUptoRow.holds Try.pinned (OpenSpec.upto fnExactResponseOfSpec)

/-- 'laws.FnExactFilterSignal', WHERE WHAT IT READS IS OF BULK AT MOST 1048576: true; the input reads as it did. -/
def fnExactFilterSignalUptoRow : OpenClaim := { program := "ytfgdkecmhgkpfaa", sum := "f4b1595a0ac23b512110ccec44351a2cfb8a5d61297e6c1b5a25defdc367ff34", func := "loop.example/g00903/laws.FnExactFilterSignal", spec := "fnExactFilterSignal", apart := false, narrowed := true }
def FnExactFilterSignalUptoSaid : Prop := fnExactFilterSignalUptoRow.holds Try.pinned (OpenSpec.upto fnExactFilterSignalSpec)

/-- 'laws.FnExactCascadeTransfers', WHERE WHAT IT READS IS OF BULK AT MOST 1048576: true; the input reads as it did. -/
def fnExactCascadeTransfersUptoRow : OpenClaim := { program := "ytfgdkecmhgkpfaa", sum := "f4b1595a0ac23b512110ccec44351a2cfb8a5d61297e6c1b5a25defdc367ff34", func := "loop.example/g00903/laws.FnExactCascadeTransfers", spec := "fnExactCascadeTransfers", apart := false, narrowed := true }
def FnExactCascadeTransfersUptoSaid : Prop := fnExactCascadeTransfersUptoRow.holds Try.pinned (OpenSpec.upto fnExactCascadeTransfersSpec)

/-- 'laws.FnExactParallelTransfers', WHERE WHAT IT READS IS OF BULK AT MOST 1048576: true; the input reads as it did. -/
def fnExactParallelTransfersUptoRow : OpenClaim := { program := "ytfgdkecmhgkpfaa", sum := "f4b1595a0ac23b512110ccec44351a2cfb8a5d61297e6c1b5a25defdc367ff34", func := "loop.example/g00903/laws.FnExactParallelTransfers", spec := "fnExactParallelTransfers", apart := false, narrowed := true }
def FnExactParallelTransfersUptoSaid : Prop := fnExactParallelTransfersUptoRow.holds Try.pinned (OpenSpec.upto fnExactParallelTransfersSpec)

/-- 'laws.FnExactFeedbackTransfer', WHERE WHAT IT READS IS OF BULK AT MOST 1048576: true; the input reads as it did. -/
def fnExactFeedbackTransferUptoRow : OpenClaim := { program := "ytfgdkecmhgkpfaa", sum := "f4b1595a0ac23b512110ccec44351a2cfb8a5d61297e6c1b5a25defdc367ff34", func := "loop.example/g00903/laws.FnExactFeedbackTransfer", spec := "fnExactFeedbackTransfer", apart := false, narrowed := true }
def FnExactFeedbackTransferUptoSaid : Prop := fnExactFeedbackTransferUptoRow.holds Try.pinned (OpenSpec.upto fnExactFeedbackTransferSpec)

end Rows
end Go.Proofs.Ytfgdkecmhgkpfaa
