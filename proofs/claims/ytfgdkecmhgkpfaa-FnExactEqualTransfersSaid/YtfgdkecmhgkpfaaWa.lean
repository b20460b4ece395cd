/- Walks over the numeric leaves: wrapping, ranges. -/
import Derived.Test.YtfgdkecmhgkpfaaRows
import Derived.Test.YtfgdkecmhgkpfaaPa
import Derived.WalkKit
import Derived.WalkSpells
import Derived.WalkLawsBesides
import Derived.Lib.Hide
namespace Go.Proofs.Ytfgdkecmhgkpfaa
open Go.RowKit

theorem implWrap_any (n : Int) (w : World) :
    Calls Try.prog 55 #[.int .i64 n] w fun e w' => e = .returned (.int .i64 (wrap32 n)) ∧ w = w' := by
  go_enter Try.func55, Try.ntmps55
  go_wp2
  go_ret
  exact ⟨ret_int (wrap64_wrap32 n), rfl⟩
theorem specWrap_any (n : Int) (w : World) :
    Calls Try.prog 72 #[.int .i64 n] w fun e w' => e = .returned (.int .i64 (wrap32 n)) ∧ w = w' := by
  have ha := and32 n
  by_cases h : 2147483647 < n % 4294967296
  · have h2 := wrap32_of_mod n h
    have H2 := Lib.hid h2
    clear h2
    go_enter Try.func72, Try.ntmps72
    go_wp2
    go_ret
    exact ⟨ret_int H2.out, rfl⟩
  · have h2 := wrap32_of_mod' n (by omega)
    have H2 := Lib.hid h2
    clear h2
    go_enter Try.func72, Try.ntmps72
    go_wp2
    go_ret
    exact ⟨ret_int H2.out, rfl⟩
theorem specAdd_any (a b : Int) (w : World) :
    Calls Try.prog 65 #[.int .i64 a, .int .i64 b] w fun e w' => e = .returned (.int .i64 (wrap32 (a + b))) ∧ w = w' := by
  have h1 := wrap32_lo a
  have h2 := wrap32_hi a
  have h3 := wrap32_lo b
  have h4 := wrap32_hi b
  go_enter Try.func65, Try.ntmps65
  go_wp2_with (go_at_call 72; refine (specWrap_any _ _).mono ?_; rintro e w' ⟨rfl, rfl⟩)
  go_ret
  exact ⟨ret_int (wrap32_add a b), rfl⟩
theorem specSub_any (a b : Int) (w : World) :
    Calls Try.prog 58 #[.int .i64 a, .int .i64 b] w fun e w' => e = .returned (.int .i64 (wrap32 (a - b))) ∧ w = w' := by
  have h1 := wrap32_lo a
  have h2 := wrap32_hi a
  have h3 := wrap32_lo b
  have h4 := wrap32_hi b
  go_enter Try.func58, Try.ntmps58
  go_wp2_with (go_at_call 72; refine (specWrap_any _ _).mono ?_; rintro e w' ⟨rfl, rfl⟩)
  go_ret
  exact ⟨ret_int (wrap32_sub a b), rfl⟩
theorem specMul_any (a b : Int) (w : World) :
    Calls Try.prog 59 #[.int .i64 a, .int .i64 b] w fun e w' => e = .returned (.int .i64 (wrap32 (a * b))) ∧ w = w' := by
  have hb := smp_mul (wrap32_lo a) (wrap32_hi a) (wrap32_lo b) (wrap32_hi b)
  obtain ⟨hb1, hb2⟩ := hb
  go_enter Try.func59, Try.ntmps59
  go_wp2_with (go_at_call 72; refine (specWrap_any _ _).mono ?_; rintro e w' ⟨rfl, rfl⟩)
  go_ret
  exact ⟨ret_int (wrap32_mul a b), rfl⟩
theorem within_any (n lo hi : Int) (w : World) :
    Calls Try.prog 61 #[.int .i64 n, .int .i64 lo, .int .i64 hi] w fun e w' => e = .returned (.bool (inB lo hi n)) ∧ w = w' := by
  by_cases h : lo ≤ n
  · go_enter Try.func61, Try.ntmps61
    go_wp2
    go_ret
    exact ⟨ret_bool (inB_hi h), rfl⟩
  · go_enter Try.func61, Try.ntmps61
    go_wp2
    go_ret
    exact ⟨ret_bool (inB_lo (by omega)), rfl⟩
theorem l00In_any (n lo hi : Int) (w : World) :
    Calls Try.prog 36 #[.int .i64 n, .int .i64 lo, .int .i64 hi] w fun e w' => e = .returned (.bool (inB lo hi n)) ∧ w = w' := by
  by_cases h : lo ≤ n
  · go_enter Try.func36, Try.ntmps36
    go_wp2
    go_ret
    exact ⟨ret_bool (inB_hi h), rfl⟩
  · go_enter Try.func36, Try.ntmps36
    go_wp2
    go_ret
    exact ⟨ret_bool (inB_lo (by omega)), rfl⟩
theorem within_is (n lo hi : Int) (b : Bool) (w : World) (h : inB lo hi n = b) :
    Calls Try.prog 61 #[.int .i64 n, .int .i64 lo, .int .i64 hi] w fun e w' => e = .returned (.bool b) ∧ w = w' := by
  subst h
  exact within_any n lo hi w
theorem l00In_is (n lo hi : Int) (b : Bool) (w : World) (h : inB lo hi n = b) :
    Calls Try.prog 36 #[.int .i64 n, .int .i64 lo, .int .i64 hi] w fun e w' => e = .returned (.bool b) ∧ w = w' := by
  subst h
  exact l00In_any n lo hi w
theorem isSample_any (n : Int) (w : World) :
    Calls Try.prog 74 #[.int .i64 n] w fun e w' => e = .returned (.bool (inB (-2147483648) 2147483647 n)) ∧ w = w' := by
  go_enter Try.func74, Try.ntmps74
  go_wp2_with (go_at_call 61; refine (within_any _ _ _ _).mono ?_; rintro e w' ⟨rfl, rfl⟩)
  go_ret
  exact ⟨rfl, rfl⟩
theorem l01Sample_any (n : Int) (w : World) :
    Calls Try.prog 64 #[.int .i64 n] w fun e w' => e = .returned (.bool (inB (-2147483648) 2147483647 n)) ∧ w = w' := by
  go_enter Try.func64, Try.ntmps64
  go_wp2_with (go_at_call 36; refine (l00In_any _ _ _ _).mono ?_; rintro e w' ⟨rfl, rfl⟩)
  go_ret
  exact ⟨rfl, rfl⟩
end Go.Proofs.Ytfgdkecmhgkpfaa
