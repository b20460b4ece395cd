/- Walks: elements behind the end, parts of signals, sums. -/
import Derived.Test.YtplioelpmfeabaaDoorVi
import Derived.Test.YtplioelpmfeabaaDoorVf
namespace Go.Proofs.YtplioelpmfeabaaDoor
open Go.RowKit
set_option linter.unusedVariables false
set_option linter.unusedSimpArgs false

/-- All numbers of a list are samples. -/
def Smp (xs : List Int) : Prop := ∀ k, -2147483648 ≤ xs.getD k 0 ∧ xs.getD k 0 ≤ 2147483647
theorem Smp.of {xs : List Int} (h : smps xs = true) : Smp xs := fun _ => sgetD h
theorem Smp.all {xs : List Int} (h : ∀ x ∈ xs, -2147483648 ≤ x ∧ x ≤ 2147483647) : Smp xs := by
  intro k
  rcases Nat.lt_or_ge k xs.length with hk | hk
  · have := h xs[k] (List.getElem_mem hk)
    simpa [List.getD_eq_getElem?_getD, hk] using this
  · rw [getD_behind hk]; exact ⟨by omega, by omega⟩
/-- A call that answers a number and leaves the world. -/
def NumIs (n : Int) (w : World) (e : Ending) (w' : World) : Prop := e = .returned (.int .i64 n) ∧ w = w'


end Go.Proofs.YtplioelpmfeabaaDoor
