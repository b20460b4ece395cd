/- Walks: sums of signals. -/
import Derived.Test.YtplioelpmfeabaaDoorVj
namespace Go.Proofs.YtplioelpmfeabaaDoor
open Go.RowKit
set_option linter.unusedVariables false
set_option linter.unusedSimpArgs false

theorem imax_nat (n m : Nat) : imax (n : Int) (m : Int) = ((max n m : Nat) : Int) := by unfold imax; split <;> omega
theorem max_nat (n m : Nat) : (if (n : Int) < (m : Int) then (m : Int) else (n : Int)) = ((max n m : Nat) : Int) := by split <;> omega

end Go.Proofs.YtplioelpmfeabaaDoor
