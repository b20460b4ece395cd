/- Laws over numbers: ValidSample, Wrap, WrapAdd, WrapMul. -/
import Derived.Test.YtpmejklchelgeaaMe
import Derived.Test.YtpmejklchelgeaaWa
namespace Go.Proofs.Ytpmejklchelgeaa
open Go.RowKit
set_option linter.unusedVariables false

theorem walk_FnExactValidSample (a : Int) (w : World) (_ : I64 a) : Calls Try.prog 4 #[.int .i64 a] w fun e w' => e = .returned (.bool true) ∧ Below w.heap.size w w' := by
  go_enter Try.func4, Try.ntmps4
  go_wp2_with (first | (go_at_call 40; refine (isSample_any _ _).mono ?_; rintro e w' ⟨rfl, rfl⟩) | (go_at_call 39; refine (l01Sample_any _ _).mono ?_; rintro e w' ⟨rfl, rfl⟩) | go_in)
  go_ret
  exact ⟨rfl, Below.refl _ _⟩

theorem walk_FnExactWrap (a : Int) (w : World) (_ : I64 a) : Calls Try.prog 5 #[.int .i64 a] w fun e w' => e = .returned (.bool true) ∧ Below w.heap.size w w' := by
  go_enter Try.func5, Try.ntmps5
  go_wp2_with (first | (go_at_call 41; refine (specWrap_any _ _).mono ?_; rintro e w' ⟨rfl, rfl⟩) | (go_at_call 18; refine (implWrap_any _ _).mono ?_; rintro e w' ⟨rfl, rfl⟩) | go_in)
  go_ret
  exact ⟨rfl, Below.refl _ _⟩

theorem walk_FnExactWrapAdd (a b : Int) (w : World) (_ : I64 a) (_ : I64 b) : Calls Try.prog 6 #[.int .i64 a, .int .i64 b] w fun e w' => e = .returned (.bool true) ∧ Below w.heap.size w w' := by
  have h := wrap32_wrap64 (a + b)
  go_enter Try.func6, Try.ntmps6
  go_wp2_with (first | (go_at_call 42; refine (specAdd_any _ _ _).mono ?_; rintro e w' ⟨rfl, rfl⟩) | (go_at_call 18; refine (implWrap_any _ _).mono ?_; rintro e w' ⟨rfl, rfl⟩) | go_in)
  go_ret
  exact ⟨rfl, Below.refl _ _⟩

theorem walk_FnExactWrapMul (a b : Int) (w : World) (_ : I64 a) (_ : I64 b) : Calls Try.prog 7 #[.int .i64 a, .int .i64 b] w fun e w' => e = .returned (.bool true) ∧ Below w.heap.size w w' := by
  have h := wrap32_wrap64 (a * b)
  go_enter Try.func7, Try.ntmps7
  go_wp2_with (first | (go_at_call 43; refine (specMul_any _ _ _).mono ?_; rintro e w' ⟨rfl, rfl⟩) | (go_at_call 18; refine (implWrap_any _ _).mono ?_; rintro e w' ⟨rfl, rfl⟩) | go_in)
  go_ret
  exact ⟨rfl, Below.refl _ _⟩

end Go.Proofs.Ytpmejklchelgeaa
