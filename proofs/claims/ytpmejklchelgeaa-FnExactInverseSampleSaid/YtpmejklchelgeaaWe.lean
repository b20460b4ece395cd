/- Walks and laws: the check value, inverses of odd samples, names. -/
import Derived.Test.YtpmejklchelgeaaWa
import Derived.Test.YtpmejklchelgeaaMe
import Derived.Test.YtpmejklchelgeaaPe
namespace Go.Proofs.Ytpmejklchelgeaa
open Go.RowKit
set_option linter.unusedVariables false

theorem isOdd_any (x : Int) (w : World) :
    Calls Try.prog 53 #[.int .i64 x] w fun e w' => e = .returned (.bool (oddB x)) ∧ w = w' := by
  have h := Lib.hid (odd_impl x)
  go_enter Try.func53, Try.ntmps53
  go_wp2
  go_ret
  exact ⟨ret_bool h.out, rfl⟩
theorem l04Odd_any (x : Int) (w : World) (h : I64 x) :
    Calls Try.prog 51 #[.int .i64 x] w fun e w' => e = .returned (.bool (oddB x)) ∧ w = w' := by
  obtain ⟨h1, h2⟩ := h
  have h := Lib.hid (odd_spec x)
  go_enter Try.func51, Try.ntmps51
  go_wp2
  go_ret
  exact ⟨ret_bool h.out, rfl⟩
set_option maxHeartbeats 400000 in
theorem inverse_any (x : Int) (w : World) (h : -2147483648 ≤ x) (h' : x ≤ 2147483647) :
    Calls Try.prog 54 #[.int .i64 x] w fun e w' => e = .returned (.int .i64 (invN x 5)) ∧ w = w' := by
  go_enter Try.func54, Try.ntmps54
  go_wp2_with fail
  go_loop [3, 5] (fun s t => ∃ k : Nat, k ≤ 5 ∧ t = .int .i64 k ∧ s = .int .i64 (invN x k)) (fun _ t => 5 - (intOf t).toNat)
  case atStart => exact ⟨0, by omega, rfl, rfl⟩
  case round =>
    obtain ⟨k, hk, rfl, rfl⟩ := hrel
    obtain ⟨y1, y2⟩ := invN_lo h h' k
    obtain ⟨p1, p2⟩ := smp_mul h h' y1 y2
    obtain ⟨q1, q2⟩ := smp_mul y1 y2 (wrap32_lo (2 - x * invN x k)) (wrap32_hi (2 - x * invN x k))
    by_cases hlt : k < 5
    · go_wp2_with (go_at_call 18; refine (implWrap_any _ _).mono ?_; rintro e w' ⟨rfl, rfl⟩)
      go_round
      case rel => exact ⟨k + 1, by omega, by go_num, rfl⟩
      case measure => simp [intOf]; omega
    · have h5 : k = 5 := by omega
      have H := Lib.hid h5
      clear h5
      go_wp2_with fail
      go_ret
      exact ⟨ret_int (by rw [H.out]), rfl⟩
set_option maxHeartbeats 400000 in
theorem l04Inverse_any (x : Int) (w : World) (h : -2147483648 ≤ x) (h' : x ≤ 2147483647) :
    Calls Try.prog 52 #[.int .i64 x] w fun e w' => e = .returned (.int .i64 (invN x 5)) ∧ w = w' := by
  go_enter Try.func52, Try.ntmps52
  go_wp2_with fail
  go_loop [3, 4] (fun s t => ∃ k : Nat, k ≤ 5 ∧ t = .int .i64 k ∧ s = .int .i64 (invN x k)) (fun _ t => 5 - (intOf t).toNat)
  case atStart => exact ⟨0, by omega, rfl, rfl⟩
  case round =>
    obtain ⟨k, hk, rfl, rfl⟩ := hrel
    by_cases hlt : k < 5
    · go_wp2_with (first | (go_at_call 43; refine (specMul_any _ _ _).mono ?_; rintro e w' ⟨rfl, rfl⟩) | (go_at_call 61; refine (specSub_any _ _ _).mono ?_; rintro e w' ⟨rfl, rfl⟩))
      go_round
      case rel => exact ⟨k + 1, by omega, by go_num, by rw [inv1_spec]; rfl⟩
      case measure => simp [intOf]; omega
    · have h5 : k = 5 := by omega
      have H := Lib.hid h5
      clear h5
      go_wp2_with fail
      go_ret
      exact ⟨ret_int (by rw [H.out]), rfl⟩
theorem i64_of_smp {x : Int} (h : inB (-2147483648) 2147483647 x = true) : -2147483648 ≤ x ∧ x ≤ 2147483647 := inB_true.1 h
/-- The inverse with its code. -/
theorem walk_FnExactInverseSample (x : Int) (w : World) (h : I64 x) : Calls Try.prog 12 #[.int .i64 x] w fun e w' => e = .returned (.bool true) ∧ Below w.heap.size w w' := by
  cases g : inB (-2147483648) 2147483647 x
  · go_enter Try.func12, Try.ntmps12
    go_wp2_with (first | (go_at_call 40; refine (isSample_any _ _).mono ?_; rintro e w' ⟨rfl, rfl⟩) | (go_at_call 39; refine (l01Sample_any _ _).mono ?_; rintro e w' ⟨rfl, rfl⟩) | go_in)
    go_ret
    exact ⟨rfl, Below.refl _ _⟩
  · obtain ⟨s1, s2⟩ := i64_of_smp g
    cases o : oddB x
    all_goals
      go_enter Try.func12, Try.ntmps12
      go_wp2_with (first | (go_at_call 40; refine (isSample_any _ _).mono ?_; rintro e w' ⟨rfl, rfl⟩) | (go_at_call 39; refine (l01Sample_any _ _).mono ?_; rintro e w' ⟨rfl, rfl⟩) | (go_at_call 53; refine (isOdd_any _ _).mono ?_; rintro e w' ⟨rfl, rfl⟩) | (go_at_call 51; refine (l04Odd_any _ _ h).mono ?_; rintro e w' ⟨rfl, rfl⟩) | (go_at_call 54; refine (inverse_any _ _ s1 s2).mono ?_; rintro e w' ⟨rfl, rfl⟩) | (go_at_call 52; refine (l04Inverse_any _ _ s1 s2).mono ?_; rintro e w' ⟨rfl, rfl⟩) | go_in)
      go_ret
      exact ⟨rfl, Below.refl _ _⟩

set_option maxHeartbeats 1000000 in
theorem implCrc_any (s : ByteArray) (x : Int) (w : World) (hs : s.size ≤ maxLen) (h : 0 ≤ x) (h' : x ≤ 65535) :
    Calls Try.prog 28 #[.string s, .int .i64 x] w fun e w' => e = .returned (.int .i64 (crcS s x s.size)) ∧ w = w' := by
  unfold maxLen at hs
  have g := inB_mk h h'
  go_enter Try.func28, Try.ntmps28
  go_wp2_with (go_at_call 45; refine (within_is _ _ _ _ _ g).mono ?_; rintro e w' ⟨rfl, rfl⟩)
  go_loop [5, 6, 7] (fun c i _ => ∃ k : Nat, k ≤ s.size ∧ i = .int .i64 k ∧ c = .int .i64 (crcS s x k)) (fun _ i _ => s.size - (intOf i).toNat)
  case atStart => exact ⟨0, by omega, rfl, rfl⟩
  case round =>
    obtain ⟨k, hk, rfl, rfl⟩ := hrel
    obtain ⟨c1, c2⟩ := crcS_lo (s := s) h h' k
    obtain ⟨b1, b2⟩ := byteAt_lo s k
    by_cases hlt : k < s.size
    · have hb := byteAt_eq s k hlt
      go_wp2_with fail
      go_loop [5, 7] (fun c j => ∃ m : Nat, m ≤ 8 ∧ j = .int .i64 m ∧ c = .int .i64 (crcN m (crcIn (crcS s x k) (byteAt s k)))) (fun _ j => 8 - (intOf j).toNat)
      case atStart => exact ⟨0, by omega, rfl, rfl⟩
      case round =>
        obtain ⟨m, hm, rfl, rfl⟩ := hrel
        obtain ⟨e1, e2⟩ := crcIn_lo c1 c2 b1 b2
        obtain ⟨d1, d2⟩ := crcN_lo e1 e2 m
        by_cases hlt8 : m < 8
        · by_cases hi : 32768 ≤ crcN m (crcIn (crcS s x k) (byteAt s k))
          · have H := Lib.hid (crc1_impl hi d2)
            obtain ⟨f1, f2⟩ := crc1_impl_lo d1 d2
            go_wp2_with fail
            go_round
            case rel => exact ⟨m + 1, by omega, by go_num, by first | rw [H.out]; rfl | (rw [← Int.tmod_eq_emod_of_nonneg f1, H.out]; rfl)⟩
            case measure => simp [intOf]; omega
          · have H := Lib.hid (crc1_low (x := crcN m (crcIn (crcS s x k) (byteAt s k))) (by omega))
            go_wp2_with fail
            go_round
            case rel => exact ⟨m + 1, by omega, by go_num, by rw [H.out]; rfl⟩
            case measure => simp [intOf]; omega
        · have h8 : m = 8 := by omega
          have H := Lib.hid h8
          clear h8
          go_wp2_with fail
          go_round
          case rel => exact ⟨k + 1, by omega, by go_num, by rw [H.out]; rfl⟩
          case measure => simp [intOf]; omega
    · have hks : k = s.size := by omega
      have H := Lib.hid hks
      clear hks
      go_wp2_with fail
      go_ret
      exact ⟨ret_int (by rw [H.out]), rfl⟩
set_option maxHeartbeats 1000000 in
theorem l01Crc_any (s : ByteArray) (x : Int) (w : World) (hs : s.size ≤ maxLen) (h : 0 ≤ x) (h' : x ≤ 65535) :
    Calls Try.prog 48 #[.string s, .int .i64 x] w fun e w' => e = .returned (.int .i64 (crcS s x s.size)) ∧ w = w' := by
  unfold maxLen at hs
  go_enter Try.func48, Try.ntmps48
  go_wp2_with fail
  go_loop [1, 5, 6, 7] (fun c i _ _ => ∃ k : Nat, k ≤ s.size ∧ i = .int .i64 k ∧ c = .int .i64 (crcS s x k)) (fun _ i _ _ => s.size - (intOf i).toNat)
  case atStart => exact ⟨0, by omega, rfl, rfl⟩
  case round =>
    obtain ⟨k, hk, rfl, rfl⟩ := hrel
    obtain ⟨c1, c2⟩ := crcS_lo (s := s) h h' k
    obtain ⟨b1, b2⟩ := byteAt_lo s k
    by_cases hlt : k < s.size
    · have hb := byteAt_eq s k hlt
      go_wp2_with fail
      go_loop [1, 6, 7] (fun c j _ => ∃ m : Nat, m ≤ 8 ∧ j = .int .i64 m ∧ c = .int .i64 (crcN m (crcIn (crcS s x k) (byteAt s k)))) (fun _ j _ => 8 - (intOf j).toNat)
      case atStart => exact ⟨0, by omega, rfl, rfl⟩
      case round =>
        obtain ⟨m, hm, rfl, rfl⟩ := hrel
        obtain ⟨e1, e2⟩ := crcIn_lo c1 c2 b1 b2
        obtain ⟨d1, d2⟩ := crcN_lo e1 e2 m
        by_cases hlt8 : m < 8
        · by_cases hi : 32768 ≤ crcN m (crcIn (crcS s x k) (byteAt s k))
          · have H := Lib.hid (crc1_spec hi d2)
            go_wp2_with fail
            go_round
            case rel => exact ⟨m + 1, by omega, by go_num, by rw [H.out]; rfl⟩
            case measure => simp [intOf]; omega
          · have H := Lib.hid (crc1_spec_low d1 (by omega))
            go_wp2_with fail
            go_round
            case rel => exact ⟨m + 1, by omega, by go_num, by rw [H.out]; rfl⟩
            case measure => simp [intOf]; omega
        · have h8 : m = 8 := by omega
          have H := Lib.hid h8
          clear h8
          go_wp2_with fail
          go_round
          case rel => exact ⟨k + 1, by omega, by go_num, by rw [H.out]; rfl⟩
          case measure => simp [intOf]; omega
    · have hks : k = s.size := by omega
      have H := Lib.hid hks
      clear hks
      go_wp2_with fail
      go_ret
      exact ⟨ret_int (by rw [H.out]), rfl⟩
theorem walk_FnExactCrc16 (s : ByteArray) (x : Int) (w : World) (hs : s.size ≤ maxLen) (h : I64 x) : Calls Try.prog 10 #[.string s, .int .i64 x] w fun e w' => e = .returned (.bool true) ∧ Below w.heap.size w w' := by
  have hs' := hs
  unfold maxLen at hs'
  by_cases hl : 1048576 < s.size
  · go_enter Try.func10, Try.ntmps10
    go_wp2
    go_ret
    exact ⟨rfl, Below.refl _ _⟩
  · cases g : inB 0 65535 x
    · have G := Lib.hid g
      have i0 : Calls Try.prog 28 #[.string s, .int .i64 x] w fun e w' => e = .returned (.int .i64 0) ∧ w = w' := by
        go_enter Try.func28, Try.ntmps28
        go_wp2_with (go_at_call 45; refine (within_is _ _ _ _ _ G.out).mono ?_; rintro e w' ⟨rfl, rfl⟩)
        go_ret
        exact ⟨rfl, rfl⟩
      go_enter Try.func10, Try.ntmps10
      go_wp2_with (first | (go_at_call 44; refine (l00In_is _ _ _ _ _ G.out).mono ?_; rintro e w' ⟨rfl, rfl⟩) | (go_at_call 28; refine i0.mono ?_; rintro e w' ⟨rfl, rfl⟩) | go_in)
      go_ret
      exact ⟨rfl, Below.refl _ _⟩
    · obtain ⟨x1, x2⟩ := inB_true.1 g
      have G := Lib.hid g
      clear g
      go_enter Try.func10, Try.ntmps10
      go_wp2_with (first | (go_at_call 44; refine (l00In_is _ _ _ _ _ G.out).mono ?_; rintro e w' ⟨rfl, rfl⟩) | (go_at_call 28; refine (implCrc_any _ _ _ hs x1 x2).mono ?_; rintro e w' ⟨rfl, rfl⟩) | (go_at_call 48; refine (l01Crc_any _ _ _ hs x1 x2).mono ?_; rintro e w' ⟨rfl, rfl⟩) | go_in)
      go_ret
      exact ⟨rfl, Below.refl _ _⟩
end Go.Proofs.Ytpmejklchelgeaa
