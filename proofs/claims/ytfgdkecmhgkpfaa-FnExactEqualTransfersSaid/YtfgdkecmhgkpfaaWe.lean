/- Walks and laws: the check value, inverses of odd samples, names. -/
import Derived.Test.YtfgdkecmhgkpfaaWa
import Derived.Test.YtfgdkecmhgkpfaaMe
import Derived.Test.YtfgdkecmhgkpfaaPe
namespace Go.Proofs.Ytfgdkecmhgkpfaa
open Go.RowKit
set_option linter.unusedVariables false
set_option linter.unusedSimpArgs false

set_option maxHeartbeats 400000 in
theorem inverse_any (x : Int) (w : World) (h : -2147483648 ≤ x) (h' : x ≤ 2147483647) :
    Calls Try.prog 62 #[.int .i64 x] w fun e w' => e = .returned (.int .i64 (invN x 5)) ∧ w = w' := by
  go_enter Try.func62, Try.ntmps62
  go_wp2_with fail
  go_loop [3, 5] (fun s t => ∃ k : Nat, k ≤ 5 ∧ t = .int .i64 k ∧ s = .int .i64 (invN x k)) (fun _ t => 5 - (intOf t).toNat)
  case atStart => exact ⟨0, by omega, rfl, rfl⟩
  case round =>
    obtain ⟨k, hk, rfl, rfl⟩ := hrel
    obtain ⟨y1, y2⟩ := invN_lo h h' k
    obtain ⟨p1, p2⟩ := smp_mul h h' y1 y2
    obtain ⟨q1, q2⟩ := smp_mul y1 y2 (wrap32_lo (2 - x * invN x k)) (wrap32_hi (2 - x * invN x k))
    by_cases hlt : k < 5
    · go_wp2_with (go_at_call 55; refine (implWrap_any _ _).mono ?_; rintro e w' ⟨rfl, rfl⟩)
      go_round
      case rel => exact ⟨k + 1, by omega, by go_num, rfl⟩
      case measure => simp [intOf]; omega
    · have h5 : k = 5 := by omega
      have H := Lib.hid h5
      clear h5
      go_wp2_with fail
      go_ret
      exact ⟨ret_int (by rw [H.out]), rfl⟩
set_option maxHeartbeats 400000 in
theorem l04Inverse_any (x : Int) (w : World) (h : -2147483648 ≤ x) (h' : x ≤ 2147483647) :
    Calls Try.prog 56 #[.int .i64 x] w fun e w' => e = .returned (.int .i64 (invN x 5)) ∧ w = w' := by
  go_enter Try.func56, Try.ntmps56
  go_wp2_with fail
  go_loop [3, 4] (fun s t => ∃ k : Nat, k ≤ 5 ∧ t = .int .i64 k ∧ s = .int .i64 (invN x k)) (fun _ t => 5 - (intOf t).toNat)
  case atStart => exact ⟨0, by omega, rfl, rfl⟩
  case round =>
    obtain ⟨k, hk, rfl, rfl⟩ := hrel
    by_cases hlt : k < 5
    · go_wp2_with (first | (go_at_call 59; refine (specMul_any _ _ _).mono ?_; rintro e w' ⟨rfl, rfl⟩) | (go_at_call 58; refine (specSub_any _ _ _).mono ?_; rintro e w' ⟨rfl, rfl⟩))
      go_round
      case rel => exact ⟨k + 1, by omega, by go_num, by rw [inv1_spec]; rfl⟩
      case measure => simp [intOf]; omega
    · have h5 : k = 5 := by omega
      have H := Lib.hid h5
      clear h5
      go_wp2_with fail
      go_ret
      exact ⟨ret_int (by rw [H.out]), rfl⟩

end Go.Proofs.Ytfgdkecmhgkpfaa
