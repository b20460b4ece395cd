/-
  No cell of these rows narrows 'for every input' (looked for: loops, veiled, ifaces, maps, wideKeys, modest, calm, conditions, laid).
  DERIVED. THE GIVEN ROWS OF THIS SEAT. 12 by the template 'for every input the law returns true; each argument reads behind the call as it read before'; 0 by the template 'total and deterministic' (their statements: YtpmejklchelgeaaTotals.lean).
  GIVEN WITH THE SEED: the statements are not yours to turn. If you find one false, say at which input.
  Laid BY PROGRAM, IN A SANDBOX (cutbox-rows.mjs): the forced cells as the released guide's own fill.sh prints them over the translation cffbaa7336f43124… (all of the seat's roots in one cut). By AI agents, Wed Nov 11 2026. No macro, syntax, notation, axiom, sorry.
-/
import Derived.Test.YtpmejklchelgeaaChecked
import GoSem.Claim
import GoSem.ClaimJoined
import GoSem.ClaimMapViews
import Derived.JoinedTies
import Derived.KernelRfl
namespace Go.Proofs.Ytpmejklchelgeaa
/- THE CELL 'sum', in the pinned program and in every row, IS THE sha256 OF THE DUMP (.gsa) THAT YtpmejklchelgeaaProg.lean LOADS. Nothing in Lean hashes anything: it is a label: what it is worth is what the hold of that sum in a sandbox is worth. -/
noncomputable def Try.pinned : Pinned := { name := "ytpmejklchelgeaa", sum := "cffbaa7336f43124c81536f5b5b4761a2f97205582fed00e5ff4d2b0038058c9", checked := Try.checked }
namespace Rows
def none {H : Type} : Left H := { results := [], args := [] }

/-- 'laws.FnExactConstants': WHATEVER THE INPUT: true; the input reads as it did. -/
def fnExactConstantsSpec : ChangeSpec := { name := "fnExactConstants", fn := fun _ => fun
  | [] => { results := [.lit (.bool true)], args := [] }
  | _ => none }
def fnExactConstantsRow : OpenClaim := { program := "ytpmejklchelgeaa", sum := "cffbaa7336f43124c81536f5b5b4761a2f97205582fed00e5ff4d2b0038058c9", func := "loop.example/g00903/laws.FnExactConstants", spec := "fnExactConstants", apart := false }
def FnExactConstantsSaid : Prop := fnExactConstantsRow.holds Try.pinned (OpenSpec.ofChange fnExactConstantsSpec)

/-- ITS FALSE NEIGHBOUR: 'it returns false'. Refute it at one input. -/
def fnExactConstantsWrong : ChangeSpec := { name := "fnExactConstants", fn := fun _ => fun
  | [] => { results := [.lit (.bool false)], args := [] }
  | _ => none }
def FnExactConstantsWrongFalsely : Prop := fnExactConstantsRow.holds Try.pinned (OpenSpec.ofChange fnExactConstantsWrong)

/-- 'laws.FnExactValidSample': WHATEVER THE INPUT: true; the input reads as it did. -/
def fnExactValidSampleSpec : ChangeSpec := { name := "fnExactValidSample", fn := fun _ => fun
  | [d] => { results := [.lit (.bool true)], args := [d] }
  | _ => none }
def fnExactValidSampleRow : OpenClaim := { program := "ytpmejklchelgeaa", sum := "cffbaa7336f43124c81536f5b5b4761a2f97205582fed00e5ff4d2b0038058c9", func := "loop.example/g00903/laws.FnExactValidSample", spec := "fnExactValidSample", apart := false }
def FnExactValidSampleSaid : Prop := fnExactValidSampleRow.holds Try.pinned (OpenSpec.ofChange fnExactValidSampleSpec)

/-- ITS FALSE NEIGHBOUR: 'it returns false'. Refute it at one input. -/
def fnExactValidSampleWrong : ChangeSpec := { name := "fnExactValidSample", fn := fun _ => fun
  | [d] => { results := [.lit (.bool false)], args := [d] }
  | _ => none }
def FnExactValidSampleWrongFalsely : Prop := fnExactValidSampleRow.holds Try.pinned (OpenSpec.ofChange fnExactValidSampleWrong)

/-- 'laws.FnExactWrap': WHATEVER THE INPUT: true; the input reads as it did. -/
def fnExactWrapSpec : ChangeSpec := { name := "fnExactWrap", fn := fun _ => fun
  | [d] => { results := [.lit (.bool true)], args := [d] }
  | _ => none }
def fnExactWrapRow : OpenClaim := { program := "ytpmejklchelgeaa", sum := "cffbaa7336f43124c81536f5b5b4761a2f97205582fed00e5ff4d2b0038058c9", func := "loop.example/g00903/laws.FnExactWrap", spec := "fnExactWrap", apart := false }
def FnExactWrapSaid : Prop := fnExactWrapRow.holds Try.pinned (OpenSpec.ofChange fnExactWrapSpec)

/-- ITS FALSE NEIGHBOUR: 'it returns false'. Refute it at one input. -/
def fnExactWrapWrong : ChangeSpec := { name := "fnExactWrap", fn := fun _ => fun
  | [d] => { results := [.lit (.bool false)], args := [d] }
  | _ => none }
def FnExactWrapWrongFalsely : Prop := fnExactWrapRow.holds Try.pinned (OpenSpec.ofChange fnExactWrapWrong)

/-- 'laws.FnExactWrapAdd': WHATEVER THE INPUT: true; the input reads as it did. -/
def fnExactWrapAddSpec : ChangeSpec := { name := "fnExactWrapAdd", fn := fun _ => fun
  | [d1, d2] => { results := [.lit (.bool true)], args := [d1, d2] }
  | _ => none }
def fnExactWrapAddRow : OpenClaim := { program := "ytpmejklchelgeaa", sum := "cffbaa7336f43124c81536f5b5b4761a2f97205582fed00e5ff4d2b0038058c9", func := "loop.example/g00903/laws.FnExactWrapAdd", spec := "fnExactWrapAdd", apart := false }
def FnExactWrapAddSaid : Prop := fnExactWrapAddRow.holds Try.pinned (OpenSpec.ofChange fnExactWrapAddSpec)

/-- ITS FALSE NEIGHBOUR: 'it returns false'. Refute it at one input. -/
def fnExactWrapAddWrong : ChangeSpec := { name := "fnExactWrapAdd", fn := fun _ => fun
  | [d1, d2] => { results := [.lit (.bool false)], args := [d1, d2] }
  | _ => none }
def FnExactWrapAddWrongFalsely : Prop := fnExactWrapAddRow.holds Try.pinned (OpenSpec.ofChange fnExactWrapAddWrong)

/-- 'laws.FnExactWrapMul': WHATEVER THE INPUT: true; the input reads as it did. -/
def fnExactWrapMulSpec : ChangeSpec := { name := "fnExactWrapMul", fn := fun _ => fun
  | [d1, d2] => { results := [.lit (.bool true)], args := [d1, d2] }
  | _ => none }
def fnExactWrapMulRow : OpenClaim := { program := "ytpmejklchelgeaa", sum := "cffbaa7336f43124c81536f5b5b4761a2f97205582fed00e5ff4d2b0038058c9", func := "loop.example/g00903/laws.FnExactWrapMul", spec := "fnExactWrapMul", apart := false }
def FnExactWrapMulSaid : Prop := fnExactWrapMulRow.holds Try.pinned (OpenSpec.ofChange fnExactWrapMulSpec)

/-- ITS FALSE NEIGHBOUR: 'it returns false'. Refute it at one input. -/
def fnExactWrapMulWrong : ChangeSpec := { name := "fnExactWrapMul", fn := fun _ => fun
  | [d1, d2] => { results := [.lit (.bool false)], args := [d1, d2] }
  | _ => none }
def FnExactWrapMulWrongFalsely : Prop := fnExactWrapMulRow.holds Try.pinned (OpenSpec.ofChange fnExactWrapMulWrong)

/-- 'laws.FnExactCodeName': WHATEVER THE INPUT: true; the input reads as it did. -/
def fnExactCodeNameSpec : ChangeSpec := { name := "fnExactCodeName", fn := fun _ => fun
  | [d] => { results := [.lit (.bool true)], args := [d] }
  | _ => none }
def fnExactCodeNameRow : OpenClaim := { program := "ytpmejklchelgeaa", sum := "cffbaa7336f43124c81536f5b5b4761a2f97205582fed00e5ff4d2b0038058c9", func := "loop.example/g00903/laws.FnExactCodeName", spec := "fnExactCodeName", apart := false }
def FnExactCodeNameSaid : Prop := fnExactCodeNameRow.holds Try.pinned (OpenSpec.ofChange fnExactCodeNameSpec)

/-- ITS FALSE NEIGHBOUR: 'it returns false'. Refute it at one input. -/
def fnExactCodeNameWrong : ChangeSpec := { name := "fnExactCodeName", fn := fun _ => fun
  | [d] => { results := [.lit (.bool false)], args := [d] }
  | _ => none }
def FnExactCodeNameWrongFalsely : Prop := fnExactCodeNameRow.holds Try.pinned (OpenSpec.ofChange fnExactCodeNameWrong)

/-- 'laws.FnExactIsName': WHATEVER THE INPUT: true; the input reads as it did. -/
def fnExactIsNameSpec : ChangeSpec := { name := "fnExactIsName", fn := fun _ => fun
  | [d] => { results := [.lit (.bool true)], args := [d] }
  | _ => none }
def fnExactIsNameRow : OpenClaim := { program := "ytpmejklchelgeaa", sum := "cffbaa7336f43124c81536f5b5b4761a2f97205582fed00e5ff4d2b0038058c9", func := "loop.example/g00903/laws.FnExactIsName", spec := "fnExactIsName", apart := false }
def FnExactIsNameSaid : Prop := fnExactIsNameRow.holds Try.pinned (OpenSpec.ofChange fnExactIsNameSpec)

/-- ITS FALSE NEIGHBOUR: 'it returns false'. Refute it at one input. -/
def fnExactIsNameWrong : ChangeSpec := { name := "fnExactIsName", fn := fun _ => fun
  | [d] => { results := [.lit (.bool false)], args := [d] }
  | _ => none }
def FnExactIsNameWrongFalsely : Prop := fnExactIsNameRow.holds Try.pinned (OpenSpec.ofChange fnExactIsNameWrong)

/-- 'laws.FnExactCrc16': WHATEVER THE INPUT: true; the input reads as it did. -/
def fnExactCrc16Spec : ChangeSpec := { name := "fnExactCrc16", fn := fun _ => fun
  | [d1, d2] => { results := [.lit (.bool true)], args := [d1, d2] }
  | _ => none }
def fnExactCrc16Row : OpenClaim := { program := "ytpmejklchelgeaa", sum := "cffbaa7336f43124c81536f5b5b4761a2f97205582fed00e5ff4d2b0038058c9", func := "loop.example/g00903/laws.FnExactCrc16", spec := "fnExactCrc16", apart := false }
def FnExactCrc16Said : Prop := fnExactCrc16Row.holds Try.pinned (OpenSpec.ofChange fnExactCrc16Spec)

/-- ITS FALSE NEIGHBOUR: 'it returns false'. Refute it at one input. -/
def fnExactCrc16Wrong : ChangeSpec := { name := "fnExactCrc16", fn := fun _ => fun
  | [d1, d2] => { results := [.lit (.bool false)], args := [d1, d2] }
  | _ => none }
def FnExactCrc16WrongFalsely : Prop := fnExactCrc16Row.holds Try.pinned (OpenSpec.ofChange fnExactCrc16Wrong)

/-- 'laws.FnExactValidFrac': WHATEVER THE INPUT: true; the input reads as it did. -/
def fnExactValidFracSpec : ChangeSpec := { name := "fnExactValidFrac", fn := fun _ => fun
  | [d] => { results := [.lit (.bool true)], args := [d] }
  | _ => none }
def fnExactValidFracRow : OpenClaim := { program := "ytpmejklchelgeaa", sum := "cffbaa7336f43124c81536f5b5b4761a2f97205582fed00e5ff4d2b0038058c9", func := "loop.example/g00903/laws.FnExactValidFrac", spec := "fnExactValidFrac", apart := false }
def FnExactValidFracSaid : Prop := fnExactValidFracRow.holds Try.pinned (OpenSpec.ofChange fnExactValidFracSpec)

/-- ITS FALSE NEIGHBOUR: 'it returns false'. Refute it at one input. -/
def fnExactValidFracWrong : ChangeSpec := { name := "fnExactValidFrac", fn := fun _ => fun
  | [d] => { results := [.lit (.bool false)], args := [d] }
  | _ => none }
def FnExactValidFracWrongFalsely : Prop := fnExactValidFracRow.holds Try.pinned (OpenSpec.ofChange fnExactValidFracWrong)

/-- 'laws.FnExactInverseSample': WHATEVER THE INPUT: true; the input reads as it did. -/
def fnExactInverseSampleSpec : ChangeSpec := { name := "fnExactInverseSample", fn := fun _ => fun
  | [d] => { results := [.lit (.bool true)], args := [d] }
  | _ => none }
def fnExactInverseSampleRow : OpenClaim := { program := "ytpmejklchelgeaa", sum := "cffbaa7336f43124c81536f5b5b4761a2f97205582fed00e5ff4d2b0038058c9", func := "loop.example/g00903/laws.FnExactInverseSample", spec := "fnExactInverseSample", apart := false }
def FnExactInverseSampleSaid : Prop := fnExactInverseSampleRow.holds Try.pinned (OpenSpec.ofChange fnExactInverseSampleSpec)

/-- ITS FALSE NEIGHBOUR: 'it returns false'. Refute it at one input. -/
def fnExactInverseSampleWrong : ChangeSpec := { name := "fnExactInverseSample", fn := fun _ => fun
  | [d] => { results := [.lit (.bool false)], args := [d] }
  | _ => none }
def FnExactInverseSampleWrongFalsely : Prop := fnExactInverseSampleRow.holds Try.pinned (OpenSpec.ofChange fnExactInverseSampleWrong)

/-- 'laws.FnExactFloorFrac': WHATEVER THE INPUT: true; the input reads as it did. -/
def fnExactFloorFracSpec : ChangeSpec := { name := "fnExactFloorFrac", fn := fun _ => fun
  | [d] => { results := [.lit (.bool true)], args := [d] }
  | _ => none }
def fnExactFloorFracRow : OpenClaim := { program := "ytpmejklchelgeaa", sum := "cffbaa7336f43124c81536f5b5b4761a2f97205582fed00e5ff4d2b0038058c9", func := "loop.example/g00903/laws.FnExactFloorFrac", spec := "fnExactFloorFrac", apart := false }
def FnExactFloorFracSaid : Prop := fnExactFloorFracRow.holds Try.pinned (OpenSpec.ofChange fnExactFloorFracSpec)

/-- ITS FALSE NEIGHBOUR: 'it returns false'. Refute it at one input. -/
def fnExactFloorFracWrong : ChangeSpec := { name := "fnExactFloorFrac", fn := fun _ => fun
  | [d] => { results := [.lit (.bool false)], args := [d] }
  | _ => none }
def FnExactFloorFracWrongFalsely : Prop := fnExactFloorFracRow.holds Try.pinned (OpenSpec.ofChange fnExactFloorFracWrong)

/-- 'laws.FnExactMakeFrac': WHATEVER THE INPUT: true; the input reads as it did. -/
def fnExactMakeFracSpec : ChangeSpec := { name := "fnExactMakeFrac", fn := fun _ => fun
  | [d1, d2] => { results := [.lit (.bool true)], args := [d1, d2] }
  | _ => none }
def fnExactMakeFracRow : OpenClaim := { program := "ytpmejklchelgeaa", sum := "cffbaa7336f43124c81536f5b5b4761a2f97205582fed00e5ff4d2b0038058c9", func := "loop.example/g00903/laws.FnExactMakeFrac", spec := "fnExactMakeFrac", apart := false }
def FnExactMakeFracSaid : Prop := fnExactMakeFracRow.holds Try.pinned (OpenSpec.ofChange fnExactMakeFracSpec)

/-- ITS FALSE NEIGHBOUR: 'it returns false'. Refute it at one input. -/
def fnExactMakeFracWrong : ChangeSpec := { name := "fnExactMakeFrac", fn := fun _ => fun
  | [d1, d2] => { results := [.lit (.bool false)], args := [d1, d2] }
  | _ => none }
def FnExactMakeFracWrongFalsely : Prop := fnExactMakeFracRow.holds Try.pinned (OpenSpec.ofChange fnExactMakeFracWrong)

/- THE SECOND FORM. 'bulk': how many values and letters a reading holds, each counted each time it is reached (what is shared counts as often as it is met; a slice's spare places count too). A statement '..UptoSaid' is the law's where the arguments, and the package variables that the reading takes, are together of bulk at most 1048576: NARROWER than '..Said'. Prove '..Said' where nothing that the law and all that it calls make is longer than what came in: it says more and counts as full. Else prove '..UptoSaid'. A law counts once. -/
mutual
def uptoBulk {H : Type} : DataW H → Nat
  | .lit (.string bytes) => bytes.length + 1
  | .lit _ => 1
  | .nil => 1
  | .ptr d => uptoBulk d + 1
  | .slice elems spare => uptoBulkAll elems + uptoBulkAll spare + 1
  | .agg parts => uptoBulkAll parts + 1
  | .iface _ d => uptoBulk d + 1
  | .map entries => uptoBulkEntries entries + 1
  | .held _ => 1
def uptoBulkAll {H : Type} : List (DataW H) → Nat
  | [] => 0
  | d :: r => uptoBulk d + uptoBulkAll r
def uptoBulkEntries {H : Type} : List (Lit × DataW H) → Nat
  | [] => 0
  | x :: r => uptoBulkEntry x + uptoBulkEntries r
def uptoBulkEntry {H : Type} : Lit × DataW H → Nat
  | (.string bytes, d) => bytes.length + uptoBulk d + 1
  | (_, d) => uptoBulk d + 1
 end
def uptoSmall : (H : Type) → List (DataW H) → Bool := fun _ ds => decide (uptoBulkAll ds ≤ 1048576)
def OpenSpec.upto (s : _root_.Go.ChangeSpec) : _root_.Go.OpenSpec := { _root_.Go.OpenSpec.ofChange s with cond := some uptoSmall }

/-- 'laws.FnExactConstants', WHERE WHAT IT READS IS OF BULK AT MOST 1048576: true; the input reads as it did. -/
def fnExactConstantsUptoRow : OpenClaim := { program := "ytpmejklchelgeaa", sum := "cffbaa7336f43124c81536f5b5b4761a2f97205582fed00e5ff4d2b0038058c9", func := "loop.example/g00903/laws.FnExactConstants", spec := "fnExactConstants", apart := false, narrowed := true }
def FnExactConstantsUptoSaid : Prop := fnExactConstantsUptoRow.holds Try.pinned (OpenSpec.upto fnExactConstantsSpec)

/-- 'laws.FnExactValidSample', WHERE WHAT IT READS IS OF BULK AT MOST 1048576: true; the input reads as it did. -/
def fnExactValidSampleUptoRow : OpenClaim := { program := "ytpmejklchelgeaa", sum := "cffbaa7336f43124c81536f5b5b4761a2f97205582fed00e5ff4d2b0038058c9", func := "loop.example/g00903/laws.FnExactValidSample", spec := "fnExactValidSample", apart := false, narrowed := true }
def FnExactValidSampleUptoSaid : Prop := fnExactValidSampleUptoRow.holds Try.pinned (OpenSpec.upto fnExactValidSampleSpec)

/-- 'laws.FnExactWrap', WHERE WHAT IT READS IS OF BULK AT MOST 1048576: true; the input reads as it did. -/
def fnExactWrapUptoRow : OpenClaim := { program := "ytpmejklchelgeaa", sum := "cffbaa7336f43124c81536f5b5b4761a2f97205582fed00e5ff4d2b0038058c9", func := "loop.example/g00903/laws.FnExactWrap", spec := "fnExactWrap", apart := false, narrowed := true }
def FnExactWrapUptoSaid : Prop := fnExactWrapUptoRow.holds Try.pinned (OpenSpec.upto fnExactWrapSpec)

/-- 'laws.FnExactWrapAdd', WHERE WHAT IT READS IS OF BULK AT MOST 1048576: true; the input reads as it did. -/
def fnExactWrapAddUptoRow : OpenClaim := { program := "ytpmejklchelgeaa", sum := "cffbaa7336f43124c81536f5b5b4761a2f97205582fed00e5ff4d2b0038058c9", func := "loop.example/g00903/laws.FnExactWrapAdd", spec := "fnExactWrapAdd", apart := false, narrowed := true }
def FnExactWrapAddUptoSaid : Prop := fnExactWrapAddUptoRow.holds Try.pinned (OpenSpec.upto fnExactWrapAddSpec)

/-- 'laws.FnExactWrapMul', WHERE WHAT IT READS IS OF BULK AT MOST 1048576: true; the input reads as it did. -/
def fnExactWrapMulUptoRow : OpenClaim := { program := "ytpmejklchelgeaa", sum := "cffbaa7336f43124c81536f5b5b4761a2f97205582fed00e5ff4d2b0038058c9", func := "loop.example/g00903/laws.FnExactWrapMul", spec := "fnExactWrapMul", apart := false, narrowed := true }
def FnExactWrapMulUptoSaid : Prop := fnExactWrapMulUptoRow.holds Try.pinned (OpenSpec.upto fnExactWrapMulSpec)

/-- 'laws.FnExactCodeName', WHERE WHAT IT READS IS OF BULK AT MOST 1048576: true; the input reads as it did. -/
def fnExactCodeNameUptoRow : OpenClaim := { program := "ytpmejklchelgeaa", sum := "cffbaa7336f43124c81536f5b5b4761a2f97205582fed00e5ff4d2b0038058c9", func := "loop.example/g00903/laws.FnExactCodeName", spec := "fnExactCodeName", apart := false, narrowed := true }
def FnExactCodeNameUptoSaid : Prop := fnExactCodeNameUptoRow.holds Try.pinned (OpenSpec.upto fnExactCodeNameSpec)

/-- 'laws.FnExactIsName', WHERE WHAT IT READS IS OF BULK AT MOST 1048576: true; the input reads as it did. -/
def fnExactIsNameUptoRow : OpenClaim := { program := "ytpmejklchelgeaa", sum := "cffbaa7336f43124c81536f5b5b4761a2f97205582fed00e5ff4d2b0038058c9", func := "loop.example/g00903/laws.FnExactIsName", spec := "fnExactIsName", apart := false, narrowed := true }
def FnExactIsNameUptoSaid : Prop := fnExactIsNameUptoRow.holds Try.pinned (OpenSpec.upto fnExactIsNameSpec)

/-- 'laws.FnExactCrc16', WHERE WHAT IT READS IS OF BULK AT MOST 1048576: true; the input reads as it did. -/
def fnExactCrc16UptoRow : OpenClaim := { program := "ytpmejklchelgeaa", sum := "cffbaa7336f43124c81536f5b5b4761a2f97205582fed00e5ff4d2b0038058c9", func := "loop.example/g00903/laws.FnExactCrc16", spec := "fnExactCrc16", apart := false, narrowed := true }
def FnExactCrc16UptoSaid : Prop := fnExactCrc16UptoRow.holds Try.pinned (OpenSpec.upto fnExactCrc16Spec)

/-- 'laws.FnExactValidFrac', WHERE WHAT IT READS IS OF BULK AT MOST 1048576: true; the input reads as it did. -/
def fnExactValidFracUptoRow : OpenClaim := { program := "ytpmejklchelgeaa", sum := "cffbaa7336f43124c81536f5b5b4761a2f97205582fed00e5ff4d2b0038058c9", func := "loop.example/g00903/laws.FnExactValidFrac", spec := "fnExactValidFrac", apart := false, narrowed := true }
def FnExactValidFracUptoSaid : Prop := fnExactValidFracUptoRow.holds Try.pinned (OpenSpec.upto fnExactValidFracSpec)

/-- 'laws.FnExactInverseSample', WHERE WHAT IT READS IS OF BULK AT MOST 1048576: true; the input reads as it did. -/
def fnExactInverseSampleUptoRow : OpenClaim := { program := "ytpmejklchelgeaa", sum := "cffbaa7336f43124c81536f5b5b4761a2f97205582fed00e5ff4d2b0038058c9", func := "loop.example/g00903/laws.FnExactInverseSample", spec := "fnExactInverseSample", apart := false, narrowed := true }
def FnExactInverseSampleUptoSaid : Prop := fnExactInverseSampleUptoRow.holds Try.pinned (OpenSpec.upto fnExactInverseSampleSpec)

/-- 'laws.FnExactFloorFrac', WHERE WHAT IT READS IS OF BULK AT MOST 1048576: true; the input reads as it did. -/
def fnExactFloorFracUptoRow : OpenClaim := { program := "ytpmejklchelgeaa", sum := "cffbaa7336f43124c81536f5b5b4761a2f97205582fed00e5ff4d2b0038058c9", func := "loop.example/g00903/laws.FnExactFloorFrac", spec := "fnExactFloorFrac", apart := false, narrowed := true }
def FnExactFloorFracUptoSaid : Prop := fnExactFloorFracUptoRow.holds Try.pinned (OpenSpec.upto fnExactFloorFracSpec)

/-- 'laws.FnExactMakeFrac', WHERE WHAT IT READS IS OF BULK AT MOST 1048576: true; the input reads as it did. -/
def fnExactMakeFracUptoRow : OpenClaim := { program := "ytpmejklchelgeaa", sum := "cffbaa7336f43124c81536f5b5b4761a2f97205582fed00e5ff4d2b0038058c9", func := "loop.example/g00903/laws.FnExactMakeFrac", spec := "fnExactMakeFrac", apart := false, narrowed := true }
def FnExactMakeFracUptoSaid : Prop := fnExactMakeFracUptoRow.holds Try.pinned (OpenSpec.upto fnExactMakeFracSpec)

end Rows
end Go.Proofs.Ytpmejklchelgeaa
