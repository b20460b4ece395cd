/-
  No cell of these rows narrows 'for every input' (looked for: loops, veiled, ifaces, maps, wideKeys, modest, calm, conditions, laid).
  DERIVED. THE GIVEN ROWS OF THIS SEAT. 9 by the template 'for every input the law returns true; each argument reads behind the call as it read before'; 0 by the template 'total and deterministic' (their statements: YtiobdgnhfecjnaaTotals.lean).
  GIVEN WITH THE SEED: the statements are not yours to turn. If you find one false, say at which input.
  Laid BY PROGRAM, IN A SANDBOX (cutbox-rows.mjs): the forced cells as the released guide's own fill.sh prints them over the translation eef85a45e547d2d5… (all of the seat's roots in one cut). By AI agents, Wed Nov 11 2026. No macro, syntax, notation, axiom, sorry.
-/
import Derived.Test.YtiobdgnhfecjnaaChecked
import GoSem.Claim
import GoSem.ClaimJoined
import GoSem.ClaimMapViews
import Derived.JoinedTies
import Derived.KernelRfl
namespace Go.Proofs.Ytiobdgnhfecjnaa
/- THE CELL 'sum', in the pinned program and in every row, IS THE sha256 OF THE DUMP (.gsa) THAT YtiobdgnhfecjnaaProg.lean LOADS. Nothing in Lean hashes anything: it is a label: what it is worth is what the hold of that sum in a sandbox is worth. -/
noncomputable def Try.pinned : Pinned := { name := "ytiobdgnhfecjnaa", sum := "eef85a45e547d2d5f026ae5d3a7635736d91f1f356c1fc85c0be9149b9615ca5", checked := Try.checked }
namespace Rows
def none {H : Type} : Left H := { results := [], args := [] }

/-- 'laws.FnExactCompareFrac': WHATEVER THE INPUT: true; the input reads as it did. -/
def fnExactCompareFracSpec : ChangeSpec := { name := "fnExactCompareFrac", fn := fun _ => fun
  | [d1, d2] => { results := [.lit (.bool true)], args := [d1, d2] }
  | _ => none }
def fnExactCompareFracRow : OpenClaim := { program := "ytiobdgnhfecjnaa", sum := "eef85a45e547d2d5f026ae5d3a7635736d91f1f356c1fc85c0be9149b9615ca5", func := "loop.example/g00903/laws.FnExactCompareFrac", spec := "fnExactCompareFrac", apart := false }
def FnExactCompareFracSaid : Prop := fnExactCompareFracRow.holds Try.pinned (OpenSpec.ofChange fnExactCompareFracSpec)

/-- ITS FALSE NEIGHBOUR: 'it returns false'. Refute it at one input. -/
def fnExactCompareFracWrong : ChangeSpec := { name := "fnExactCompareFrac", fn := fun _ => fun
  | [d1, d2] => { results := [.lit (.bool false)], args := [d1, d2] }
  | _ => none }
def FnExactCompareFracWrongFalsely : Prop := fnExactCompareFracRow.holds Try.pinned (OpenSpec.ofChange fnExactCompareFracWrong)

/-- 'laws.FnExactAddFrac': WHATEVER THE INPUT: true; the input reads as it did. -/
def fnExactAddFracSpec : ChangeSpec := { name := "fnExactAddFrac", fn := fun _ => fun
  | [d1, d2] => { results := [.lit (.bool true)], args := [d1, d2] }
  | _ => none }
def fnExactAddFracRow : OpenClaim := { program := "ytiobdgnhfecjnaa", sum := "eef85a45e547d2d5f026ae5d3a7635736d91f1f356c1fc85c0be9149b9615ca5", func := "loop.example/g00903/laws.FnExactAddFrac", spec := "fnExactAddFrac", apart := false }
def FnExactAddFracSaid : Prop := fnExactAddFracRow.holds Try.pinned (OpenSpec.ofChange fnExactAddFracSpec)

/-- ITS FALSE NEIGHBOUR: 'it returns false'. Refute it at one input. -/
def fnExactAddFracWrong : ChangeSpec := { name := "fnExactAddFrac", fn := fun _ => fun
  | [d1, d2] => { results := [.lit (.bool false)], args := [d1, d2] }
  | _ => none }
def FnExactAddFracWrongFalsely : Prop := fnExactAddFracRow.holds Try.pinned (OpenSpec.ofChange fnExactAddFracWrong)

/-- 'laws.FnExactMediant': WHATEVER THE INPUT: true; the input reads as it did. -/
def fnExactMediantSpec : ChangeSpec := { name := "fnExactMediant", fn := fun _ => fun
  | [d1, d2] => { results := [.lit (.bool true)], args := [d1, d2] }
  | _ => none }
def fnExactMediantRow : OpenClaim := { program := "ytiobdgnhfecjnaa", sum := "eef85a45e547d2d5f026ae5d3a7635736d91f1f356c1fc85c0be9149b9615ca5", func := "loop.example/g00903/laws.FnExactMediant", spec := "fnExactMediant", apart := false }
def FnExactMediantSaid : Prop := fnExactMediantRow.holds Try.pinned (OpenSpec.ofChange fnExactMediantSpec)

/-- ITS FALSE NEIGHBOUR: 'it returns false'. Refute it at one input. -/
def fnExactMediantWrong : ChangeSpec := { name := "fnExactMediant", fn := fun _ => fun
  | [d1, d2] => { results := [.lit (.bool false)], args := [d1, d2] }
  | _ => none }
def FnExactMediantWrongFalsely : Prop := fnExactMediantRow.holds Try.pinned (OpenSpec.ofChange fnExactMediantWrong)

/-- 'laws.FnExactMulFrac': WHATEVER THE INPUT: true; the input reads as it did. -/
def fnExactMulFracSpec : ChangeSpec := { name := "fnExactMulFrac", fn := fun _ => fun
  | [d1, d2] => { results := [.lit (.bool true)], args := [d1, d2] }
  | _ => none }
def fnExactMulFracRow : OpenClaim := { program := "ytiobdgnhfecjnaa", sum := "eef85a45e547d2d5f026ae5d3a7635736d91f1f356c1fc85c0be9149b9615ca5", func := "loop.example/g00903/laws.FnExactMulFrac", spec := "fnExactMulFrac", apart := false }
def FnExactMulFracSaid : Prop := fnExactMulFracRow.holds Try.pinned (OpenSpec.ofChange fnExactMulFracSpec)

/-- ITS FALSE NEIGHBOUR: 'it returns false'. Refute it at one input. -/
def fnExactMulFracWrong : ChangeSpec := { name := "fnExactMulFrac", fn := fun _ => fun
  | [d1, d2] => { results := [.lit (.bool false)], args := [d1, d2] }
  | _ => none }
def FnExactMulFracWrongFalsely : Prop := fnExactMulFracRow.holds Try.pinned (OpenSpec.ofChange fnExactMulFracWrong)

/-- 'laws.FnExactSubFrac': WHATEVER THE INPUT: true; the input reads as it did. -/
def fnExactSubFracSpec : ChangeSpec := { name := "fnExactSubFrac", fn := fun _ => fun
  | [d1, d2] => { results := [.lit (.bool true)], args := [d1, d2] }
  | _ => none }
def fnExactSubFracRow : OpenClaim := { program := "ytiobdgnhfecjnaa", sum := "eef85a45e547d2d5f026ae5d3a7635736d91f1f356c1fc85c0be9149b9615ca5", func := "loop.example/g00903/laws.FnExactSubFrac", spec := "fnExactSubFrac", apart := false }
def FnExactSubFracSaid : Prop := fnExactSubFracRow.holds Try.pinned (OpenSpec.ofChange fnExactSubFracSpec)

/-- ITS FALSE NEIGHBOUR: 'it returns false'. Refute it at one input. -/
def fnExactSubFracWrong : ChangeSpec := { name := "fnExactSubFrac", fn := fun _ => fun
  | [d1, d2] => { results := [.lit (.bool false)], args := [d1, d2] }
  | _ => none }
def FnExactSubFracWrongFalsely : Prop := fnExactSubFracRow.holds Try.pinned (OpenSpec.ofChange fnExactSubFracWrong)

/-- 'laws.FnExactDivFrac': WHATEVER THE INPUT: true; the input reads as it did. -/
def fnExactDivFracSpec : ChangeSpec := { name := "fnExactDivFrac", fn := fun _ => fun
  | [d1, d2] => { results := [.lit (.bool true)], args := [d1, d2] }
  | _ => none }
def fnExactDivFracRow : OpenClaim := { program := "ytiobdgnhfecjnaa", sum := "eef85a45e547d2d5f026ae5d3a7635736d91f1f356c1fc85c0be9149b9615ca5", func := "loop.example/g00903/laws.FnExactDivFrac", spec := "fnExactDivFrac", apart := false }
def FnExactDivFracSaid : Prop := fnExactDivFracRow.holds Try.pinned (OpenSpec.ofChange fnExactDivFracSpec)

/-- ITS FALSE NEIGHBOUR: 'it returns false'. Refute it at one input. -/
def fnExactDivFracWrong : ChangeSpec := { name := "fnExactDivFrac", fn := fun _ => fun
  | [d1, d2] => { results := [.lit (.bool false)], args := [d1, d2] }
  | _ => none }
def FnExactDivFracWrongFalsely : Prop := fnExactDivFracRow.holds Try.pinned (OpenSpec.ofChange fnExactDivFracWrong)

/-- 'laws.FnExactTermsOf': WHATEVER THE INPUT: true; the input reads as it did. -/
def fnExactTermsOfSpec : ChangeSpec := { name := "fnExactTermsOf", fn := fun _ => fun
  | [d] => { results := [.lit (.bool true)], args := [d] }
  | _ => none }
def fnExactTermsOfRow : OpenClaim := { program := "ytiobdgnhfecjnaa", sum := "eef85a45e547d2d5f026ae5d3a7635736d91f1f356c1fc85c0be9149b9615ca5", func := "loop.example/g00903/laws.FnExactTermsOf", spec := "fnExactTermsOf", apart := false }
def FnExactTermsOfSaid : Prop := fnExactTermsOfRow.holds Try.pinned (OpenSpec.ofChange fnExactTermsOfSpec)

/-- ITS FALSE NEIGHBOUR: 'it returns false'. Refute it at one input. -/
def fnExactTermsOfWrong : ChangeSpec := { name := "fnExactTermsOf", fn := fun _ => fun
  | [d] => { results := [.lit (.bool false)], args := [d] }
  | _ => none }
def FnExactTermsOfWrongFalsely : Prop := fnExactTermsOfRow.holds Try.pinned (OpenSpec.ofChange fnExactTermsOfWrong)

/-- 'laws.FnExactFracOfTerms': WHATEVER THE INPUT: true; the input reads as it did. -/
def fnExactFracOfTermsSpec : ChangeSpec := { name := "fnExactFracOfTerms", fn := fun _ => fun
  | [d] => { results := [.lit (.bool true)], args := [d] }
  | _ => none }
def fnExactFracOfTermsRow : OpenClaim := { program := "ytiobdgnhfecjnaa", sum := "eef85a45e547d2d5f026ae5d3a7635736d91f1f356c1fc85c0be9149b9615ca5", func := "loop.example/g00903/laws.FnExactFracOfTerms", spec := "fnExactFracOfTerms", apart := false }
def FnExactFracOfTermsSaid : Prop := fnExactFracOfTermsRow.holds Try.pinned (OpenSpec.ofChange fnExactFracOfTermsSpec)

/-- ITS FALSE NEIGHBOUR: 'it returns false'. Refute it at one input. -/
def fnExactFracOfTermsWrong : ChangeSpec := { name := "fnExactFracOfTerms", fn := fun _ => fun
  | [d] => { results := [.lit (.bool false)], args := [d] }
  | _ => none }
def FnExactFracOfTermsWrongFalsely : Prop := fnExactFracOfTermsRow.holds Try.pinned (OpenSpec.ofChange fnExactFracOfTermsWrong)

/-- 'laws.FnExactBestFrac': WHATEVER THE INPUT: true; the input reads as it did. -/
def fnExactBestFracSpec : ChangeSpec := { name := "fnExactBestFrac", fn := fun _ => fun
  | [d1, d2] => { results := [.lit (.bool true)], args := [d1, d2] }
  | _ => none }
def fnExactBestFracRow : OpenClaim := { program := "ytiobdgnhfecjnaa", sum := "eef85a45e547d2d5f026ae5d3a7635736d91f1f356c1fc85c0be9149b9615ca5", func := "loop.example/g00903/laws.FnExactBestFrac", spec := "fnExactBestFrac", apart := false }
def FnExactBestFracSaid : Prop := fnExactBestFracRow.holds Try.pinned (OpenSpec.ofChange fnExactBestFracSpec)

/-- ITS FALSE NEIGHBOUR: 'it returns false'. Refute it at one input. -/
def fnExactBestFracWrong : ChangeSpec := { name := "fnExactBestFrac", fn := fun _ => fun
  | [d1, d2] => { results := [.lit (.bool false)], args := [d1, d2] }
  | _ => none }
def FnExactBestFracWrongFalsely : Prop := fnExactBestFracRow.holds Try.pinned (OpenSpec.ofChange fnExactBestFracWrong)

/- THE SECOND FORM. 'bulk': how many values and letters a reading holds, each counted each time it is reached (what is shared counts as often as it is met; a slice's spare places count too). A statement '..UptoSaid' is the law's where the arguments, and the package variables that the reading takes, are together of bulk at most 1048576: NARROWER than '..Said'. Prove '..Said' where nothing that the law and all that it calls make is longer than what came in: it says more and counts as full. Else prove '..UptoSaid'. A law counts once. -/
mutual
def uptoBulk {H : Type} : DataW H → Nat
  | .lit (.string bytes) => bytes.length + 1
  | .lit _ => 1
  | .nil => 1
  | .ptr d => uptoBulk d + 1
  | .slice elems spare => uptoBulkAll elems + uptoBulkAll spare + 1
  | .agg parts => uptoBulkAll parts + 1
  | .iface _ d => uptoBulk d + 1
  | .map entries => uptoBulkEntries entries + 1
  | .held _ => 1
def uptoBulkAll {H : Type} : List (DataW H) → Nat
  | [] => 0
  | d :: r => uptoBulk d + uptoBulkAll r
def uptoBulkEntries {H : Type} : List (Lit × DataW H) → Nat
  | [] => 0
  | x :: r => uptoBulkEntry x + uptoBulkEntries r
def uptoBulkEntry {H : Type} : Lit × DataW H → Nat
  | (.string bytes, d) => bytes.length + uptoBulk d + 1
  | (_, d) => uptoBulk d + 1
 end
def uptoSmall : (H : Type) → List (DataW H) → Bool := fun _ ds => decide (uptoBulkAll ds ≤ 1048576)
def OpenSpec.upto (s : _root_.Go.ChangeSpec) : _root_.Go.OpenSpec := { _root_.Go.OpenSpec.ofChange s with cond := some uptoSmall }

/-- 'laws.FnExactCompareFrac', WHERE WHAT IT READS IS OF BULK AT MOST 1048576: true; the input reads as it did. -/
def fnExactCompareFracUptoRow : OpenClaim := { program := "ytiobdgnhfecjnaa", sum := "eef85a45e547d2d5f026ae5d3a7635736d91f1f356c1fc85c0be9149b9615ca5", func := "loop.example/g00903/laws.FnExactCompareFrac", spec := "fnExactCompareFrac", apart := false, narrowed := true }
def FnExactCompareFracUptoSaid : Prop := fnExactCompareFracUptoRow.holds Try.pinned (OpenSpec.upto fnExactCompareFracSpec)

/-- 'laws.FnExactAddFrac', WHERE WHAT IT READS IS OF BULK AT MOST 1048576: true; the input reads as it did. -/
def fnExactAddFracUptoRow : OpenClaim := { program := "ytiobdgnhfecjnaa", sum := "eef85a45e547d2d5f026ae5d3a7635736d91f1f356c1fc85c0be9149b9615ca5", func := "loop.example/g00903/laws.FnExactAddFrac", spec := "fnExactAddFrac", apart := false, narrowed := true }
def FnExactAddFracUptoSaid : Prop := fnExactAddFracUptoRow.holds Try.pinned (OpenSpec.upto fnExactAddFracSpec)

/-- 'laws.FnExactMediant', WHERE WHAT IT READS IS OF BULK AT MOST 1048576: true; the input reads as it did. -/
def fnExactMediantUptoRow : OpenClaim := { program := "ytiobdgnhfecjnaa", sum := "eef85a45e547d2d5f026ae5d3a7635736d91f1f356c1fc85c0be9149b9615ca5", func := "loop.example/g00903/laws.FnExactMediant", spec := "fnExactMediant", apart := false, narrowed := true }
def FnExactMediantUptoSaid : Prop := fnExactMediantUptoRow.holds Try.pinned (OpenSpec.upto fnExactMediantSpec)

/-- 'laws.FnExactMulFrac', WHERE WHAT IT READS IS OF BULK AT MOST 1048576: true; the input reads as it did. -/
def fnExactMulFracUptoRow : OpenClaim := { program := "ytiobdgnhfecjnaa", sum := "eef85a45e547d2d5f026ae5d3a7635736d91f1f356c1fc85c0be9149b9615ca5", func := "loop.example/g00903/laws.FnExactMulFrac", spec := "fnExactMulFrac", apart := false, narrowed := true }
def FnExactMulFracUptoSaid : Prop := fnExactMulFracUptoRow.holds Try.pinned (OpenSpec.upto fnExactMulFracSpec)

/-- 'laws.FnExactSubFrac', WHERE WHAT IT READS IS OF BULK AT MOST 1048576: true; the input reads as it did. -/
def fnExactSubFracUptoRow : OpenClaim := { program := "ytiobdgnhfecjnaa", sum := "eef85a45e547d2d5f026ae5d3a7635736d91f1f356c1fc85c0be9149b9615ca5", func := "loop.example/g00903/laws.FnExactSubFrac", spec := "fnExactSubFrac", apart := false, narrowed := true }
def FnExactSubFracUptoSaid : Prop := fnExactSubFracUptoRow.holds Try.pinned (OpenSpec.upto fnExactSubFracSpec)

/-- 'laws.FnExactDivFrac', WHERE WHAT IT READS IS OF BULK AT MOST 1048576: true; the input reads as it did. -/
def fnExactDivFracUptoRow : OpenClaim := { program := "ytiobdgnhfecjnaa", sum := "eef85a45e547d2d5f026ae5d3a7635736d91f1f356c1fc85c0be9149b9615ca5", func := "loop.example/g00903/laws.FnExactDivFrac", spec := "fnExactDivFrac", apart := false, narrowed := true }
def FnExactDivFracUptoSaid : Prop := fnExactDivFracUptoRow.holds Try.pinned (OpenSpec.upto fnExactDivFracSpec)

/-- 'laws.FnExactTermsOf', WHERE WHAT IT READS IS OF BULK AT MOST 1048576: true; the input reads as it did. -/
def fnExactTermsOfUptoRow : OpenClaim := { program := "ytiobdgnhfecjnaa", sum := "eef85a45e547d2d5f026ae5d3a7635736d91f1f356c1fc85c0be9149b9615ca5", func := "loop.example/g00903/laws.FnExactTermsOf", spec := "fnExactTermsOf", apart := false, narrowed := true }
def FnExactTermsOfUptoSaid : Prop := fnExactTermsOfUptoRow.holds Try.pinned (OpenSpec.upto fnExactTermsOfSpec)

/-- 'laws.FnExactFracOfTerms', WHERE WHAT IT READS IS OF BULK AT MOST 1048576: true; the input reads as it did. -/
def fnExactFracOfTermsUptoRow : OpenClaim := { program := "ytiobdgnhfecjnaa", sum := "eef85a45e547d2d5f026ae5d3a7635736d91f1f356c1fc85c0be9149b9615ca5", func := "loop.example/g00903/laws.FnExactFracOfTerms", spec := "fnExactFracOfTerms", apart := false, narrowed := true }
def FnExactFracOfTermsUptoSaid : Prop := fnExactFracOfTermsUptoRow.holds Try.pinned (OpenSpec.upto fnExactFracOfTermsSpec)

/-- 'laws.FnExactBestFrac', WHERE WHAT IT READS IS OF BULK AT MOST 1048576: true; the input reads as it did. -/
def fnExactBestFracUptoRow : OpenClaim := { program := "ytiobdgnhfecjnaa", sum := "eef85a45e547d2d5f026ae5d3a7635736d91f1f356c1fc85c0be9149b9615ca5", func := "loop.example/g00903/laws.FnExactBestFrac", spec := "fnExactBestFrac", apart := false, narrowed := true }
def FnExactBestFracUptoSaid : Prop := fnExactBestFracUptoRow.holds Try.pinned (OpenSpec.upto fnExactBestFracSpec)

end Rows
end Go.Proofs.Ytiobdgnhfecjnaa
