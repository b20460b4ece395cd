/- Walks: products of lists of coefficients. -/
import Derived.Test.YtplioelpmfeabaaDoorVk
import Derived.Test.YtplioelpmfeabaaDoorPm
import Derived.StillTailTactics
namespace Go.Proofs.YtplioelpmfeabaaDoor
open Go.RowKit
set_option linter.unusedVariables false
set_option linter.unusedSimpArgs false

theorem still_of {P : Program} {f : FuncId} {args : Array Value} {w : World} {v : Value} (h : Calls P f args w fun e w' => e = .returned v ∧ w = w') : Calls P f args w fun e w'' => e = .returned v ∧ w'' = w :=
  h.mono fun _ _ ⟨he, hw⟩ => ⟨he, hw.symm⟩


end Go.Proofs.YtplioelpmfeabaaDoor
