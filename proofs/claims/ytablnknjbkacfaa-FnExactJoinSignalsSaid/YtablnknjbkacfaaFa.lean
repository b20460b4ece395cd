/- Three closed facts of the program's head, dear to compute: proved once for all statements of this seat. -/
import Derived.Test.YtablnknjbkacfaaRows
import Derived.ProofKit
namespace Go.Proofs.Ytablnknjbkacfaa

theorem mayEnter_ : Try.prog.mayEnter = true := by kernel_rfl
theorem liftsFinal_is : Try.prog.liftsFinal = false := by kernel_rfl
theorem make_is : (Try.prog.make == some .cut) = true := by kernel_rfl

end Go.Proofs.Ytablnknjbkacfaa
