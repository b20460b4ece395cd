/- Walks and laws: the check value, inverses of odd samples, names. -/
import Derived.Test.YtppfcmhbbjgkfaaWa
import Derived.Test.YtppfcmhbbjgkfaaMe
import Derived.Test.YtppfcmhbbjgkfaaPe
namespace Go.Proofs.Ytppfcmhbbjgkfaa
open Go.RowKit
set_option linter.unusedVariables false
set_option linter.unusedSimpArgs false

theorem isOdd_any (x : Int) (w : World) :
    Calls Try.prog 71 #[.int .i64 x] w fun e w' => e = .returned (.bool (oddB x)) ∧ w = w' := by
  have h := Lib.hid (odd_impl x)
  go_enter Try.func71, Try.ntmps71
  go_wp2
  go_ret
  exact ⟨ret_bool h.out, rfl⟩
theorem l04Odd_any (x : Int) (w : World) (h : I64 x) :
    Calls Try.prog 65 #[.int .i64 x] w fun e w' => e = .returned (.bool (oddB x)) ∧ w = w' := by
  obtain ⟨h1, h2⟩ := h
  have h := Lib.hid (odd_spec x)
  go_enter Try.func65, Try.ntmps65
  go_wp2
  go_ret
  exact ⟨ret_bool h.out, rfl⟩
set_option maxHeartbeats 400000 in
theorem inverse_any (x : Int) (w : World) (h : -2147483648 ≤ x) (h' : x ≤ 2147483647) :
    Calls Try.prog 72 #[.int .i64 x] w fun e w' => e = .returned (.int .i64 (invN x 5)) ∧ w = w' := by
  go_enter Try.func72, Try.ntmps72
  go_wp2_with fail
  go_loop [3, 5] (fun s t => ∃ k : Nat, k ≤ 5 ∧ t = .int .i64 k ∧ s = .int .i64 (invN x k)) (fun _ t => 5 - (intOf t).toNat)
  case atStart => exact ⟨0, by omega, rfl, rfl⟩
  case round =>
    obtain ⟨k, hk, rfl, rfl⟩ := hrel
    obtain ⟨y1, y2⟩ := invN_lo h h' k
    obtain ⟨p1, p2⟩ := smp_mul h h' y1 y2
    obtain ⟨q1, q2⟩ := smp_mul y1 y2 (wrap32_lo (2 - x * invN x k)) (wrap32_hi (2 - x * invN x k))
    by_cases hlt : k < 5
    · go_wp2_with (go_at_call 75; refine (implWrap_any _ _).mono ?_; rintro e w' ⟨rfl, rfl⟩)
      go_round
      case rel => exact ⟨k + 1, by omega, by go_num, rfl⟩
      case measure => simp [intOf]; omega
    · have h5 : k = 5 := by omega
      have H := Lib.hid h5
      clear h5
      go_wp2_with fail
      go_ret
      exact ⟨ret_int (by rw [H.out]), rfl⟩
set_option maxHeartbeats 400000 in
theorem l04Inverse_any (x : Int) (w : World) (h : -2147483648 ≤ x) (h' : x ≤ 2147483647) :
    Calls Try.prog 66 #[.int .i64 x] w fun e w' => e = .returned (.int .i64 (invN x 5)) ∧ w = w' := by
  go_enter Try.func66, Try.ntmps66
  go_wp2_with fail
  go_loop [3, 4] (fun s t => ∃ k : Nat, k ≤ 5 ∧ t = .int .i64 k ∧ s = .int .i64 (invN x k)) (fun _ t => 5 - (intOf t).toNat)
  case atStart => exact ⟨0, by omega, rfl, rfl⟩
  case round =>
    obtain ⟨k, hk, rfl, rfl⟩ := hrel
    by_cases hlt : k < 5
    · go_wp2_with (first | (go_at_call 68; refine (specMul_any _ _ _).mono ?_; rintro e w' ⟨rfl, rfl⟩) | (go_at_call 69; refine (specSub_any _ _ _).mono ?_; rintro e w' ⟨rfl, rfl⟩))
      go_round
      case rel => exact ⟨k + 1, by omega, by go_num, by rw [inv1_spec]; rfl⟩
      case measure => simp [intOf]; omega
    · have h5 : k = 5 := by omega
      have H := Lib.hid h5
      clear h5
      go_wp2_with fail
      go_ret
      exact ⟨ret_int (by rw [H.out]), rfl⟩

end Go.Proofs.Ytppfcmhbbjgkfaa
