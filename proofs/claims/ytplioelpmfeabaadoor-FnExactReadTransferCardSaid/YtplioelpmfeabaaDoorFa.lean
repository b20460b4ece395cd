/- Three closed facts of the program's head, dear to compute: proved once for all statements of this seat. -/
import Derived.Test.YtplioelpmfeabaaDoorRows
import Derived.ProofKit
namespace Go.Proofs.YtplioelpmfeabaaDoor

theorem mayEnter_ : Tryd.prog.mayEnter = true := by kernel_rfl
theorem liftsFinal_is : Tryd.prog.liftsFinal = false := by kernel_rfl
theorem make_is : (Tryd.prog.make == some .cut) = true := by kernel_rfl

end Go.Proofs.YtplioelpmfeabaaDoor
