/- Laws over single fractions: ValidFrac, FloorFrac, MakeFrac. -/
import Derived.Test.YtiobdgnhfecjnaaWc
import Derived.Test.YtiobdgnhfecjnaaWm
namespace Go.Proofs.Ytiobdgnhfecjnaa
open Go.RowKit
set_option linter.unusedVariables false



end Go.Proofs.Ytiobdgnhfecjnaa
