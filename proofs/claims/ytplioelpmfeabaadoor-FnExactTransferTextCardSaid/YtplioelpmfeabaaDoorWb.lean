/- Walks over the fractions' leaves: gcd, absolute value, validity, MakeFrac, floor, order. -/
import Derived.Test.YtplioelpmfeabaaDoorRows
import Derived.Test.YtplioelpmfeabaaDoorPb
import Derived.Test.YtplioelpmfeabaaDoorWa
import Derived.Test.YtplioelpmfeabaaDoorMe
import Derived.WalkKit
import Derived.WalkSpells
import Derived.WalkLawsBesides
import Derived.Lib.Hide
import Derived.Deep.QuietTactic
import Derived.BigQuiet
import Derived.Deep.RegionHeld3
import Derived.Deep.RegionWith
namespace Go.Proofs.YtplioelpmfeabaaDoor
open Go.RowKit
set_option linter.unusedVariables false
set_option linter.unusedSimpArgs false

set_option maxHeartbeats 400000 in
theorem implGcd_any (a b : Int) (w : World) (ha : 0 ≤ a) (ha' : a ≤ 18446744073709551615) (hb : 0 ≤ b) (hb' : b ≤ 18446744073709551615) :
    Calls Tryd.prog 77 #[.int .u64 a, .int .u64 b] w fun e w' => e = .returned (.int .u64 (gcdI a b)) ∧ ∃ n, w' = w.drewN n := by
  go_enter Tryd.func77, Tryd.ntmps77
  go_wp2
  go_loopw [0, 1] (fun s t wr => ∃ x y : Int, 0 ≤ x ∧ x ≤ 18446744073709551615 ∧ 0 ≤ y ∧ y ≤ 18446744073709551615 ∧ s = .int .u64 x ∧ t = .int .u64 y ∧ gcdI x y = gcdI a b ∧ ∃ n, wr = w.drewN n) (fun _ t _ => (intOf t).toNat)
  case atStart => exact ⟨a, b, ha, ha', hb, hb', rfl, rfl, rfl, 0, rfl⟩
  case round =>
    obtain ⟨x, y, hx, hx', hy, hy', rfl, rfl, hg, n, rfl⟩ := hrel
    have HG := Lib.hid hg
    clear hg
    by_cases h0 : y = 0
    · subst h0
      go_wp2
      go_ret
      exact ⟨ret_int (by rw [← HG.out]; exact (gcdI_zero x hx).symm), n, rfl⟩
    · have h1 : 1 ≤ y := by omega
      have hm : 0 ≤ x % y := Int.emod_nonneg _ (by omega)
      have hm' : x % y < y := Int.emod_lt_of_pos _ (by omega)
      clear h0
      go_wp2
      go_quiet (fail)
      go_wp2
      go_roundw
      case rel => exact ⟨y, x % y, by omega, by omega, hm, by omega, rfl, rfl, (gcdI_step x y hx (by omega)).trans HG.out, _, World.drewN_drewN _ _ _⟩
      case measure => simp [intOf]; omega
set_option maxHeartbeats 400000 in
theorem specGcd_any (a b : Int) (w : World) (ha : 0 ≤ a) (ha' : a ≤ 18446744073709551615) (hb : 0 ≤ b) (hb' : b ≤ 18446744073709551615) :
    Calls Tryd.prog 74 #[.int .u64 a, .int .u64 b] w fun e w' => e = .returned (.int .u64 (gcdI a b)) ∧ ∃ n, w' = w.drewN n := by
  go_enter Tryd.func74, Tryd.ntmps74
  go_wp2
  go_loop [0, 1] (fun s t => ∃ x y : Int, 0 ≤ x ∧ x ≤ 18446744073709551615 ∧ 0 ≤ y ∧ y ≤ 18446744073709551615 ∧ s = .int .u64 x ∧ t = .int .u64 y ∧ gcdI x y = gcdI a b) (fun _ t => (intOf t).toNat)
  case atStart => exact ⟨a, b, ha, ha', hb, hb', rfl, rfl, rfl⟩
  case round =>
    obtain ⟨x, y, hx, hx', hy, hy', rfl, rfl, hg⟩ := hrel
    have HG := Lib.hid hg
    clear hg
    by_cases h0 : y = 0
    · subst h0
      go_wp2
      go_ret
      exact ⟨ret_int (by rw [← HG.out]; exact (gcdI_zero x hx).symm), 0, rfl⟩
    · have h1 : 1 ≤ y := by omega
      have hm : 0 ≤ x % y := Int.emod_nonneg _ (by omega)
      have hm' : x % y < y := Int.emod_lt_of_pos _ (by omega)
      clear h0
      go_wp2
      go_round
      case rel => exact ⟨y, x % y, by omega, by omega, hm, by omega, rfl, rfl, (gcdI_step x y hx (by omega)).trans HG.out⟩
      case measure => simp [intOf]; omega
theorem implAbs_any (n : Int) (w : World) (h : -9223372036854775808 ≤ n) (h' : n ≤ 9223372036854775807) :
    Calls Tryd.prog 78 #[.int .i64 n] w fun e w' => e = .returned (.int .u64 (absI n)) ∧ w = w' := by
  by_cases h0 : n < 0
  · go_enter Tryd.func78, Tryd.ntmps78
    go_wp2
    go_ret
    refine ⟨ret_int ?_, rfl⟩
    rw [absI_of_neg h0]
    first | (rw [IntKind.wrap_u64, IntKind.wrap_u64]; omega) | (rw [IntKind.wrap_u64]; omega) | omega
  · go_enter Tryd.func78, Tryd.ntmps78
    go_wp2
    go_ret
    refine ⟨ret_int ?_, rfl⟩
    rw [absI_of_nonneg (by omega)]
theorem specAbs_any (n : Int) (w : World) (h : -9223372036854775808 ≤ n) (h' : n ≤ 9223372036854775807) :
    Calls Tryd.prog 75 #[.int .i64 n] w fun e w' => e = .returned (.int .u64 (absI n)) ∧ w = w' := by
  by_cases h0 : n < 0
  · go_enter Tryd.func75, Tryd.ntmps75
    go_wp2
    go_ret
    refine ⟨ret_int ?_, rfl⟩
    rw [absI_of_neg h0]
    first | (rw [IntKind.wrap_u64, IntKind.wrap_u64]; omega) | (rw [IntKind.wrap_u64]; omega) | omega
  · go_enter Tryd.func75, Tryd.ntmps75
    go_wp2
    go_ret
    refine ⟨ret_int ?_, rfl⟩
    rw [absI_of_nonneg (by omega)]

set_option maxHeartbeats 400000 in
theorem isFrac_any (n d : Int) (w : World) (h : I64 n) (h' : I64 d) :
    Calls Tryd.prog 54 #[.agg #[.int .i64 n, .int .i64 d]] w fun e w' => e = .returned (.bool (okF n d)) ∧ Below w.heap.size w w' := by
  obtain ⟨n1, n2⟩ := h
  obtain ⟨d1, d2⟩ := h'
  cases g1 : inB 1 1000000 d
  · have H := Lib.hid (okF_d (n := n) g1)
    have G1 := Lib.hid g1
    clear g1
    go_enter Tryd.func54, Tryd.ntmps54
    go_wp2
    go_quiet ((go_at_call 76; exact quiet_eq (within_is _ _ _ _ _ G1.out)))
    go_wp2
    go_ret
    exact ⟨ret_bool H.out.symm, ((Below.refl _ _).alloc (Nat.le_refl _) _).trans ((below_of_drewN _ _).mono (by simp))⟩
  · cases g2 : inB (-1000000000) 1000000000 n
    · have H := Lib.hid (okF_n (d := d) g2)
      have G1 := Lib.hid g1
      have G2 := Lib.hid g2
      clear g1 g2
      go_enter Tryd.func54, Tryd.ntmps54
      go_wp2
      go_quiet ((first | (go_at_call_of 76 (Value.int IntKind.i64 d); exact quiet_eq (within_is _ _ _ _ _ G1.out)) | (go_at_call_of 76 (Value.int IntKind.i64 n); exact quiet_eq (within_is _ _ _ _ _ G2.out))))
      go_wp2
      go_ret
      exact ⟨ret_bool H.out.symm, ((Below.refl _ _).alloc (Nat.le_refl _) _).trans ((below_of_drewN _ _).mono (by simp))⟩
    · have H := Lib.hid (okF_g g1 g2)
      have hd := inB_true.1 g1
      have ha := absI_lo n
      have ha' := absI_hi n1 n2
      obtain ⟨hd1, hd2⟩ := hd
      have G1 := Lib.hid g1
      have G2 := Lib.hid g2
      clear g1 g2
      go_enter Tryd.func54, Tryd.ntmps54
      go_wp2
      go_quiet ((first | (go_at_call_of 76 (Value.int IntKind.i64 d); exact quiet_eq (within_is _ _ _ _ _ G1.out)) | (go_at_call_of 76 (Value.int IntKind.i64 n); exact quiet_eq (within_is _ _ _ _ _ G2.out)) | (go_at_call 78; exact quiet_eq (implAbs_any _ _ n1 n2)) | (go_at_call 77; exact Calls.quiet_of (implGcd_any _ _ _ ha (by omega) (by omega) (by omega)))))
      go_wp2
      go_ret
      exact ⟨ret_bool H.out, ((Below.refl _ _).alloc (Nat.le_refl _) _).trans ((below_of_drewN _ _).mono (by simp))⟩
set_option maxHeartbeats 400000 in
theorem l02Ok_any (n d : Int) (w : World) (h : I64 n) (h' : I64 d) :
    Calls Tryd.prog 52 #[.agg #[.int .i64 n, .int .i64 d]] w fun e w' => e = .returned (.bool (okF n d)) ∧ Below w.heap.size w w' := by
  obtain ⟨n1, n2⟩ := h
  obtain ⟨d1, d2⟩ := h'
  cases g1 : inB 1 1000000 d
  · have H := Lib.hid (okF_d (n := n) g1)
    have G1 := Lib.hid g1
    clear g1
    go_enter Tryd.func52, Tryd.ntmps52
    go_wp2
    go_quiet ((go_at_call 73; exact quiet_eq (l00In_is _ _ _ _ _ G1.out)))
    go_wp2
    go_ret
    exact ⟨ret_bool H.out.symm, ((Below.refl _ _).alloc (Nat.le_refl _) _).trans ((below_of_drewN _ _).mono (by simp))⟩
  · cases g2 : inB (-1000000000) 1000000000 n
    · have H := Lib.hid (okF_n (d := d) g2)
      have G1 := Lib.hid g1
      have G2 := Lib.hid g2
      clear g1 g2
      go_enter Tryd.func52, Tryd.ntmps52
      go_wp2
      go_quiet ((first | (go_at_call_of 73 (Value.int IntKind.i64 d); exact quiet_eq (l00In_is _ _ _ _ _ G1.out)) | (go_at_call_of 73 (Value.int IntKind.i64 n); exact quiet_eq (l00In_is _ _ _ _ _ G2.out))))
      go_wp2
      go_ret
      exact ⟨ret_bool H.out.symm, ((Below.refl _ _).alloc (Nat.le_refl _) _).trans ((below_of_drewN _ _).mono (by simp))⟩
    · have H := Lib.hid (okF_g g1 g2)
      have hd := inB_true.1 g1
      have ha := absI_lo n
      have ha' := absI_hi n1 n2
      obtain ⟨hd1, hd2⟩ := hd
      have G1 := Lib.hid g1
      have G2 := Lib.hid g2
      clear g1 g2
      go_enter Tryd.func52, Tryd.ntmps52
      go_wp2
      go_quiet ((first | (go_at_call_of 73 (Value.int IntKind.i64 d); exact quiet_eq (l00In_is _ _ _ _ _ G1.out)) | (go_at_call_of 73 (Value.int IntKind.i64 n); exact quiet_eq (l00In_is _ _ _ _ _ G2.out)) | (go_at_call 75; exact quiet_eq (specAbs_any _ _ n1 n2)) | (go_at_call 74; exact Calls.quiet_of (specGcd_any _ _ _ ha (by omega) (by omega) (by omega)))))
      go_wp2
      go_ret
      exact ⟨ret_bool H.out, ((Below.refl _ _).alloc (Nat.le_refl _) _).trans ((below_of_drewN _ _).mono (by simp))⟩

end Go.Proofs.YtplioelpmfeabaaDoor
