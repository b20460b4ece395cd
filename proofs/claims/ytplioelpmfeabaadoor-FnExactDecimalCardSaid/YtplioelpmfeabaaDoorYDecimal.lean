/- The law Decimal. -/
import Derived.Test.YtplioelpmfeabaaDoorQb
namespace Go.Proofs.YtplioelpmfeabaaDoor
open Go.RowKit
set_option linter.unusedVariables false
set_option linter.unusedSimpArgs false

theorem walk_FnExactDecimal (a : Int) (w : World) (ha : I64 a) (hT : Lib.TabBelow Tryd.prog w.heap.size w "internal/strconv.uint64pow10" .u64 Lib.pow10Tab) :
    Calls Tryd.prog 3 #[.int .i64 a] w fun e w' => e = .returned (.bool true) ∧ Below w.heap.size w w' := by
  have HA := Lib.hid ha
  have HT := Lib.hid hT
  clear ha hT
  go_enter Tryd.func3, Tryd.ntmps3
  go_wp2_with fail
  refine (specDecimal_any _ _ HA.out).mono ?_
  rintro e w1 ⟨rfl, hb1⟩
  go_wp2_with fail
  refine (implDecimal_any _ _ w.heap.size HA.out (HT.out.on hb1)).mono ?_
  rintro e w2 ⟨rfl, hb2⟩
  have B2 := hb1.trans (hb2.mono hb1.size)
  clear hb1 hb2
  go_wp2
  go_ret
  exact ⟨rfl, B2⟩

end Go.Proofs.YtplioelpmfeabaaDoor
