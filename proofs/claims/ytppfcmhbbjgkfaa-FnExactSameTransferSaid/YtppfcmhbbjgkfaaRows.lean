/-
  No cell of these rows narrows 'for every input' (looked for: loops, veiled, ifaces, maps, wideKeys, modest, calm, conditions, laid).
  DERIVED. THE GIVEN ROWS OF THIS SEAT. 11 by the template 'for every input the law returns true; each argument reads behind the call as it read before'; 0 by the template 'total and deterministic' (their statements: YtppfcmhbbjgkfaaTotals.lean).
  GIVEN WITH THE SEED: the statements are not yours to turn. If you find one false, say at which input.
  Laid BY PROGRAM, IN A SANDBOX (cutbox-rows.mjs): the forced cells as the released guide's own fill.sh prints them over the translation 1f6ee7b52f3af9f3… (all of the seat's roots in one cut). By AI agents, Wed Nov 11 2026. No macro, syntax, notation, axiom, sorry.
-/
import Derived.Test.YtppfcmhbbjgkfaaChecked
import GoSem.Claim
import GoSem.ClaimJoined
import GoSem.ClaimMapViews
import Derived.JoinedTies
import Derived.KernelRfl
namespace Go.Proofs.Ytppfcmhbbjgkfaa
/- THE CELL 'sum', in the pinned program and in every row, IS THE sha256 OF THE DUMP (.gsa) THAT YtppfcmhbbjgkfaaProg.lean LOADS. Nothing in Lean hashes anything: it is a label: what it is worth is what the hold of that sum in a sandbox is worth. -/
noncomputable def Try.pinned : Pinned := { name := "ytppfcmhbbjgkfaa", sum := "1f6ee7b52f3af9f3e8c5556b3916542ef753ab37835e3648c79f72a323941097", checked := Try.checked }
namespace Rows
def none {H : Type} : Left H := { results := [], args := [] }

/-- 'laws.FnExactGainTransfer': WHATEVER THE INPUT: true; the input reads as it did. -/
def fnExactGainTransferSpec : ChangeSpec := { name := "fnExactGainTransfer", fn := fun _ => fun
  | [d] => { results := [.lit (.bool true)], args := [d] }
  | _ => none }
def fnExactGainTransferRow : OpenClaim := { program := "ytppfcmhbbjgkfaa", sum := "1f6ee7b52f3af9f3e8c5556b3916542ef753ab37835e3648c79f72a323941097", func := "loop.example/g00903/laws.FnExactGainTransfer", spec := "fnExactGainTransfer", apart := false }
def FnExactGainTransferSaid : Prop := fnExactGainTransferRow.holds Try.pinned (OpenSpec.ofChange fnExactGainTransferSpec)

/-- ITS FALSE NEIGHBOUR: 'it returns false'. Refute it at one input. -/
def fnExactGainTransferWrong : ChangeSpec := { name := "fnExactGainTransfer", fn := fun _ => fun
  | [d] => { results := [.lit (.bool false)], args := [d] }
  | _ => none }
def FnExactGainTransferWrongFalsely : Prop := fnExactGainTransferRow.holds Try.pinned (OpenSpec.ofChange fnExactGainTransferWrong)

/-- 'laws.FnExactLagTransfer': WHATEVER THE INPUT: true; the input reads as it did. -/
def fnExactLagTransferSpec : ChangeSpec := { name := "fnExactLagTransfer", fn := fun _ => fun
  | [d] => { results := [.lit (.bool true)], args := [d] }
  | _ => none }
def fnExactLagTransferRow : OpenClaim := { program := "ytppfcmhbbjgkfaa", sum := "1f6ee7b52f3af9f3e8c5556b3916542ef753ab37835e3648c79f72a323941097", func := "loop.example/g00903/laws.FnExactLagTransfer", spec := "fnExactLagTransfer", apart := false }
def FnExactLagTransferSaid : Prop := fnExactLagTransferRow.holds Try.pinned (OpenSpec.ofChange fnExactLagTransferSpec)

/-- ITS FALSE NEIGHBOUR: 'it returns false'. Refute it at one input. -/
def fnExactLagTransferWrong : ChangeSpec := { name := "fnExactLagTransfer", fn := fun _ => fun
  | [d] => { results := [.lit (.bool false)], args := [d] }
  | _ => none }
def FnExactLagTransferWrongFalsely : Prop := fnExactLagTransferRow.holds Try.pinned (OpenSpec.ofChange fnExactLagTransferWrong)

/-- 'laws.FnExactSameTransfer': WHATEVER THE INPUT: true; the input reads as it did. -/
def fnExactSameTransferSpec : ChangeSpec := { name := "fnExactSameTransfer", fn := fun _ => fun
  | [d1, d2] => { results := [.lit (.bool true)], args := [d1, d2] }
  | _ => none }
def fnExactSameTransferRow : OpenClaim := { program := "ytppfcmhbbjgkfaa", sum := "1f6ee7b52f3af9f3e8c5556b3916542ef753ab37835e3648c79f72a323941097", func := "loop.example/g00903/laws.FnExactSameTransfer", spec := "fnExactSameTransfer", apart := false }
def FnExactSameTransferSaid : Prop := fnExactSameTransferRow.holds Try.pinned (OpenSpec.ofChange fnExactSameTransferSpec)

/-- ITS FALSE NEIGHBOUR: 'it returns false'. Refute it at one input. -/
def fnExactSameTransferWrong : ChangeSpec := { name := "fnExactSameTransfer", fn := fun _ => fun
  | [d1, d2] => { results := [.lit (.bool false)], args := [d1, d2] }
  | _ => none }
def FnExactSameTransferWrongFalsely : Prop := fnExactSameTransferRow.holds Try.pinned (OpenSpec.ofChange fnExactSameTransferWrong)

/-- 'laws.FnExactValidTransfer': WHATEVER THE INPUT: true; the input reads as it did. -/
def fnExactValidTransferSpec : ChangeSpec := { name := "fnExactValidTransfer", fn := fun _ => fun
  | [d] => { results := [.lit (.bool true)], args := [d] }
  | _ => none }
def fnExactValidTransferRow : OpenClaim := { program := "ytppfcmhbbjgkfaa", sum := "1f6ee7b52f3af9f3e8c5556b3916542ef753ab37835e3648c79f72a323941097", func := "loop.example/g00903/laws.FnExactValidTransfer", spec := "fnExactValidTransfer", apart := false }
def FnExactValidTransferSaid : Prop := fnExactValidTransferRow.holds Try.pinned (OpenSpec.ofChange fnExactValidTransferSpec)

/-- ITS FALSE NEIGHBOUR: 'it returns false'. Refute it at one input. -/
def fnExactValidTransferWrong : ChangeSpec := { name := "fnExactValidTransfer", fn := fun _ => fun
  | [d] => { results := [.lit (.bool false)], args := [d] }
  | _ => none }
def FnExactValidTransferWrongFalsely : Prop := fnExactValidTransferRow.holds Try.pinned (OpenSpec.ofChange fnExactValidTransferWrong)

/-- 'laws.FnExactAddPoly': WHATEVER THE INPUT: true; the input reads as it did. -/
def fnExactAddPolySpec : ChangeSpec := { name := "fnExactAddPoly", fn := fun _ => fun
  | [d1, d2] => { results := [.lit (.bool true)], args := [d1, d2] }
  | _ => none }
def fnExactAddPolyRow : OpenClaim := { program := "ytppfcmhbbjgkfaa", sum := "1f6ee7b52f3af9f3e8c5556b3916542ef753ab37835e3648c79f72a323941097", func := "loop.example/g00903/laws.FnExactAddPoly", spec := "fnExactAddPoly", apart := false }
def FnExactAddPolySaid : Prop := fnExactAddPolyRow.holds Try.pinned (OpenSpec.ofChange fnExactAddPolySpec)

/-- ITS FALSE NEIGHBOUR: 'it returns false'. Refute it at one input. -/
def fnExactAddPolyWrong : ChangeSpec := { name := "fnExactAddPoly", fn := fun _ => fun
  | [d1, d2] => { results := [.lit (.bool false)], args := [d1, d2] }
  | _ => none }
def FnExactAddPolyWrongFalsely : Prop := fnExactAddPolyRow.holds Try.pinned (OpenSpec.ofChange fnExactAddPolyWrong)

/-- 'laws.FnExactSubPoly': WHATEVER THE INPUT: true; the input reads as it did. -/
def fnExactSubPolySpec : ChangeSpec := { name := "fnExactSubPoly", fn := fun _ => fun
  | [d1, d2] => { results := [.lit (.bool true)], args := [d1, d2] }
  | _ => none }
def fnExactSubPolyRow : OpenClaim := { program := "ytppfcmhbbjgkfaa", sum := "1f6ee7b52f3af9f3e8c5556b3916542ef753ab37835e3648c79f72a323941097", func := "loop.example/g00903/laws.FnExactSubPoly", spec := "fnExactSubPoly", apart := false }
def FnExactSubPolySaid : Prop := fnExactSubPolyRow.holds Try.pinned (OpenSpec.ofChange fnExactSubPolySpec)

/-- ITS FALSE NEIGHBOUR: 'it returns false'. Refute it at one input. -/
def fnExactSubPolyWrong : ChangeSpec := { name := "fnExactSubPoly", fn := fun _ => fun
  | [d1, d2] => { results := [.lit (.bool false)], args := [d1, d2] }
  | _ => none }
def FnExactSubPolyWrongFalsely : Prop := fnExactSubPolyRow.holds Try.pinned (OpenSpec.ofChange fnExactSubPolyWrong)

/-- 'laws.FnExactMulPoly': WHATEVER THE INPUT: true; the input reads as it did. -/
def fnExactMulPolySpec : ChangeSpec := { name := "fnExactMulPoly", fn := fun _ => fun
  | [d1, d2] => { results := [.lit (.bool true)], args := [d1, d2] }
  | _ => none }
def fnExactMulPolyRow : OpenClaim := { program := "ytppfcmhbbjgkfaa", sum := "1f6ee7b52f3af9f3e8c5556b3916542ef753ab37835e3648c79f72a323941097", func := "loop.example/g00903/laws.FnExactMulPoly", spec := "fnExactMulPoly", apart := false }
def FnExactMulPolySaid : Prop := fnExactMulPolyRow.holds Try.pinned (OpenSpec.ofChange fnExactMulPolySpec)

/-- ITS FALSE NEIGHBOUR: 'it returns false'. Refute it at one input. -/
def fnExactMulPolyWrong : ChangeSpec := { name := "fnExactMulPoly", fn := fun _ => fun
  | [d1, d2] => { results := [.lit (.bool false)], args := [d1, d2] }
  | _ => none }
def FnExactMulPolyWrongFalsely : Prop := fnExactMulPolyRow.holds Try.pinned (OpenSpec.ofChange fnExactMulPolyWrong)

/-- 'laws.FnExactDivPoly': WHATEVER THE INPUT: true; the input reads as it did. -/
def fnExactDivPolySpec : ChangeSpec := { name := "fnExactDivPoly", fn := fun _ => fun
  | [d1, d2] => { results := [.lit (.bool true)], args := [d1, d2] }
  | _ => none }
def fnExactDivPolyRow : OpenClaim := { program := "ytppfcmhbbjgkfaa", sum := "1f6ee7b52f3af9f3e8c5556b3916542ef753ab37835e3648c79f72a323941097", func := "loop.example/g00903/laws.FnExactDivPoly", spec := "fnExactDivPoly", apart := false }
def FnExactDivPolySaid : Prop := fnExactDivPolyRow.holds Try.pinned (OpenSpec.ofChange fnExactDivPolySpec)

/-- ITS FALSE NEIGHBOUR: 'it returns false'. Refute it at one input. -/
def fnExactDivPolyWrong : ChangeSpec := { name := "fnExactDivPoly", fn := fun _ => fun
  | [d1, d2] => { results := [.lit (.bool false)], args := [d1, d2] }
  | _ => none }
def FnExactDivPolyWrongFalsely : Prop := fnExactDivPolyRow.holds Try.pinned (OpenSpec.ofChange fnExactDivPolyWrong)

/-- 'laws.FnExactPowPoly': WHATEVER THE INPUT: true; the input reads as it did. -/
def fnExactPowPolySpec : ChangeSpec := { name := "fnExactPowPoly", fn := fun _ => fun
  | [d1, d2] => { results := [.lit (.bool true)], args := [d1, d2] }
  | _ => none }
def fnExactPowPolyRow : OpenClaim := { program := "ytppfcmhbbjgkfaa", sum := "1f6ee7b52f3af9f3e8c5556b3916542ef753ab37835e3648c79f72a323941097", func := "loop.example/g00903/laws.FnExactPowPoly", spec := "fnExactPowPoly", apart := false }
def FnExactPowPolySaid : Prop := fnExactPowPolyRow.holds Try.pinned (OpenSpec.ofChange fnExactPowPolySpec)

/-- ITS FALSE NEIGHBOUR: 'it returns false'. Refute it at one input. -/
def fnExactPowPolyWrong : ChangeSpec := { name := "fnExactPowPoly", fn := fun _ => fun
  | [d1, d2] => { results := [.lit (.bool false)], args := [d1, d2] }
  | _ => none }
def FnExactPowPolyWrongFalsely : Prop := fnExactPowPolyRow.holds Try.pinned (OpenSpec.ofChange fnExactPowPolyWrong)

/-- 'laws.FnExactSeriesQuotient': WHATEVER THE INPUT: true; the input reads as it did. -/
def fnExactSeriesQuotientSpec : ChangeSpec := { name := "fnExactSeriesQuotient", fn := fun _ => fun
  | [d1, d2, d3] => { results := [.lit (.bool true)], args := [d1, d2, d3] }
  | _ => none }
def fnExactSeriesQuotientRow : OpenClaim := { program := "ytppfcmhbbjgkfaa", sum := "1f6ee7b52f3af9f3e8c5556b3916542ef753ab37835e3648c79f72a323941097", func := "loop.example/g00903/laws.FnExactSeriesQuotient", spec := "fnExactSeriesQuotient", apart := false }
def FnExactSeriesQuotientSaid : Prop := fnExactSeriesQuotientRow.holds Try.pinned (OpenSpec.ofChange fnExactSeriesQuotientSpec)

/-- ITS FALSE NEIGHBOUR: 'it returns false'. Refute it at one input. -/
def fnExactSeriesQuotientWrong : ChangeSpec := { name := "fnExactSeriesQuotient", fn := fun _ => fun
  | [d1, d2, d3] => { results := [.lit (.bool false)], args := [d1, d2, d3] }
  | _ => none }
def FnExactSeriesQuotientWrongFalsely : Prop := fnExactSeriesQuotientRow.holds Try.pinned (OpenSpec.ofChange fnExactSeriesQuotientWrong)

/-- 'laws.FnExactSeriesInverse': WHATEVER THE INPUT: true; the input reads as it did. -/
def fnExactSeriesInverseSpec : ChangeSpec := { name := "fnExactSeriesInverse", fn := fun _ => fun
  | [d1, d2] => { results := [.lit (.bool true)], args := [d1, d2] }
  | _ => none }
def fnExactSeriesInverseRow : OpenClaim := { program := "ytppfcmhbbjgkfaa", sum := "1f6ee7b52f3af9f3e8c5556b3916542ef753ab37835e3648c79f72a323941097", func := "loop.example/g00903/laws.FnExactSeriesInverse", spec := "fnExactSeriesInverse", apart := false }
def FnExactSeriesInverseSaid : Prop := fnExactSeriesInverseRow.holds Try.pinned (OpenSpec.ofChange fnExactSeriesInverseSpec)

/-- ITS FALSE NEIGHBOUR: 'it returns false'. Refute it at one input. -/
def fnExactSeriesInverseWrong : ChangeSpec := { name := "fnExactSeriesInverse", fn := fun _ => fun
  | [d1, d2] => { results := [.lit (.bool false)], args := [d1, d2] }
  | _ => none }
def FnExactSeriesInverseWrongFalsely : Prop := fnExactSeriesInverseRow.holds Try.pinned (OpenSpec.ofChange fnExactSeriesInverseWrong)

/- THE SECOND FORM. 'bulk': how many values and letters a reading holds, each counted each time it is reached (what is shared counts as often as it is met; a slice's spare places count too). A statement '..UptoSaid' is the law's where the arguments, and the package variables that the reading takes, are together of bulk at most 1048576: NARROWER than '..Said'. Prove '..Said' where nothing that the law and all that it calls make is longer than what came in: it says more and counts as full. Else prove '..UptoSaid'. A law counts once. -/
mutual
def uptoBulk {H : Type} : DataW H → Nat
  | .lit (.string bytes) => bytes.length + 1
  | .lit _ => 1
  | .nil => 1
  | .ptr d => uptoBulk d + 1
  | .slice elems spare => uptoBulkAll elems + uptoBulkAll spare + 1
  | .agg parts => uptoBulkAll parts + 1
  | .iface _ d => uptoBulk d + 1
  | .map entries => uptoBulkEntries entries + 1
  | .held _ => 1
def uptoBulkAll {H : Type} : List (DataW H) → Nat
  | [] => 0
  | d :: r => uptoBulk d + uptoBulkAll r
def uptoBulkEntries {H : Type} : List (Lit × DataW H) → Nat
  | [] => 0
  | x :: r => uptoBulkEntry x + uptoBulkEntries r
def uptoBulkEntry {H : Type} : Lit × DataW H → Nat
  | (.string bytes, d) => bytes.length + uptoBulk d + 1
  | (_, d) => uptoBulk d + 1
 end
def uptoSmall : (H : Type) → List (DataW H) → Bool := fun _ ds => decide (uptoBulkAll ds ≤ 1048576)
def OpenSpec.upto (s : _root_.Go.ChangeSpec) : _root_.Go.OpenSpec := { _root_.Go.OpenSpec.ofChange s with cond := some uptoSmall }

/-- 'laws.FnExactGainTransfer', WHERE WHAT IT READS IS OF BULK AT MOST 1048576: true; the input reads as it did. -/
def fnExactGainTransferUptoRow : OpenClaim := { program := "ytppfcmhbbjgkfaa", sum := "1f6ee7b52f3af9f3e8c5556b3916542ef753ab37835e3648c79f72a323941097", func := "loop.example/g00903/laws.FnExactGainTransfer", spec := "fnExactGainTransfer", apart := false, narrowed := true }
def FnExactGainTransferUptoSaid : Prop := fnExactGainTransferUptoRow.holds Try.pinned (OpenSpec.upto fnExactGainTransferSpec)

/-- 'laws.FnExactLagTransfer', WHERE WHAT IT READS IS OF BULK AT MOST 1048576: true; the input reads as it did. -/
def fnExactLagTransferUptoRow : OpenClaim := { program := "ytppfcmhbbjgkfaa", sum := "1f6ee7b52f3af9f3e8c5556b3916542ef753ab37835e3648c79f72a323941097", func := "loop.example/g00903/laws.FnExactLagTransfer", spec := "fnExactLagTransfer", apart := false, narrowed := true }
def FnExactLagTransferUptoSaid : Prop := fnExactLagTransferUptoRow.holds Try.pinned (OpenSpec.upto fnExactLagTransferSpec)

/-- 'laws.FnExactSameTransfer', WHERE WHAT IT READS IS OF BULK AT MOST 1048576: true; the input reads as it did. -/
def fnExactSameTransferUptoRow : OpenClaim := { program := "ytppfcmhbbjgkfaa", sum := "1f6ee7b52f3af9f3e8c5556b3916542ef753ab37835e3648c79f72a323941097", func := "loop.example/g00903/laws.FnExactSameTransfer", spec := "fnExactSameTransfer", apart := false, narrowed := true }
def FnExactSameTransferUptoSaid : Prop := fnExactSameTransferUptoRow.holds Try.pinned (OpenSpec.upto fnExactSameTransferSpec)

/-- 'laws.FnExactValidTransfer', WHERE WHAT IT READS IS OF BULK AT MOST 1048576: true; the input reads as it did. -/
def fnExactValidTransferUptoRow : OpenClaim := { program := "ytppfcmhbbjgkfaa", sum := "1f6ee7b52f3af9f3e8c5556b3916542ef753ab37835e3648c79f72a323941097", func := "loop.example/g00903/laws.FnExactValidTransfer", spec := "fnExactValidTransfer", apart := false, narrowed := true }
def FnExactValidTransferUptoSaid : Prop := fnExactValidTransferUptoRow.holds Try.pinned (OpenSpec.upto fnExactValidTransferSpec)

/-- 'laws.FnExactAddPoly', WHERE WHAT IT READS IS OF BULK AT MOST 1048576: true; the input reads as it did. -/
def fnExactAddPolyUptoRow : OpenClaim := { program := "ytppfcmhbbjgkfaa", sum := "1f6ee7b52f3af9f3e8c5556b3916542ef753ab37835e3648c79f72a323941097", func := "loop.example/g00903/laws.FnExactAddPoly", spec := "fnExactAddPoly", apart := false, narrowed := true }
def FnExactAddPolyUptoSaid : Prop := fnExactAddPolyUptoRow.holds Try.pinned (OpenSpec.upto fnExactAddPolySpec)

/-- 'laws.FnExactSubPoly', WHERE WHAT IT READS IS OF BULK AT MOST 1048576: true; the input reads as it did. -/
def fnExactSubPolyUptoRow : OpenClaim := { program := "ytppfcmhbbjgkfaa", sum := "1f6ee7b52f3af9f3e8c5556b3916542ef753ab37835e3648c79f72a323941097", func := "loop.example/g00903/laws.FnExactSubPoly", spec := "fnExactSubPoly", apart := false, narrowed := true }
def FnExactSubPolyUptoSaid : Prop := fnExactSubPolyUptoRow.holds Try.pinned (OpenSpec.upto fnExactSubPolySpec)

/-- 'laws.FnExactMulPoly', WHERE WHAT IT READS IS OF BULK AT MOST 1048576: true; the input reads as it did. -/
def fnExactMulPolyUptoRow : OpenClaim := { program := "ytppfcmhbbjgkfaa", sum := "1f6ee7b52f3af9f3e8c5556b3916542ef753ab37835e3648c79f72a323941097", func := "loop.example/g00903/laws.FnExactMulPoly", spec := "fnExactMulPoly", apart := false, narrowed := true }
def FnExactMulPolyUptoSaid : Prop := fnExactMulPolyUptoRow.holds Try.pinned (OpenSpec.upto fnExactMulPolySpec)

/-- 'laws.FnExactDivPoly', WHERE WHAT IT READS IS OF BULK AT MOST 1048576: true; the input reads as it did. -/
def fnExactDivPolyUptoRow : OpenClaim := { program := "ytppfcmhbbjgkfaa", sum := "1f6ee7b52f3af9f3e8c5556b3916542ef753ab37835e3648c79f72a323941097", func := "loop.example/g00903/laws.FnExactDivPoly", spec := "fnExactDivPoly", apart := false, narrowed := true }
def FnExactDivPolyUptoSaid : Prop := fnExactDivPolyUptoRow.holds Try.pinned (OpenSpec.upto fnExactDivPolySpec)

/-- 'laws.FnExactPowPoly', WHERE WHAT IT READS IS OF BULK AT MOST 1048576: true; the input reads as it did. -/
def fnExactPowPolyUptoRow : OpenClaim := { program := "ytppfcmhbbjgkfaa", sum := "1f6ee7b52f3af9f3e8c5556b3916542ef753ab37835e3648c79f72a323941097", func := "loop.example/g00903/laws.FnExactPowPoly", spec := "fnExactPowPoly", apart := false, narrowed := true }
def FnExactPowPolyUptoSaid : Prop := fnExactPowPolyUptoRow.holds Try.pinned (OpenSpec.upto fnExactPowPolySpec)

/-- 'laws.FnExactSeriesQuotient', WHERE WHAT IT READS IS OF BULK AT MOST 1048576: true; the input reads as it did. -/
def fnExactSeriesQuotientUptoRow : OpenClaim := { program := "ytppfcmhbbjgkfaa", sum := "1f6ee7b52f3af9f3e8c5556b3916542ef753ab37835e3648c79f72a323941097", func := "loop.example/g00903/laws.FnExactSeriesQuotient", spec := "fnExactSeriesQuotient", apart := false, narrowed := true }
def FnExactSeriesQuotientUptoSaid : Prop := fnExactSeriesQuotientUptoRow.holds Try.pinned (OpenSpec.upto fnExactSeriesQuotientSpec)

/-- 'laws.FnExactSeriesInverse', WHERE WHAT IT READS IS OF BULK AT MOST 1048576: true; the input reads as it did. -/
def fnExactSeriesInverseUptoRow : OpenClaim := { program := "ytppfcmhbbjgkfaa", sum := "1f6ee7b52f3af9f3e8c5556b3916542ef753ab37835e3648c79f72a323941097", func := "loop.example/g00903/laws.FnExactSeriesInverse", spec := "fnExactSeriesInverse", apart := false, narrowed := true }
def FnExactSeriesInverseUptoSaid : Prop := fnExactSeriesInverseUptoRow.holds Try.pinned (OpenSpec.upto fnExactSeriesInverseSpec)

end Rows
end Go.Proofs.Ytppfcmhbbjgkfaa
