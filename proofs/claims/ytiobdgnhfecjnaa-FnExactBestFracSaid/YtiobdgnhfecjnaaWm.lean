/- Walks: MakeFrac. -/
import Derived.Test.YtiobdgnhfecjnaaWb
namespace Go.Proofs.Ytiobdgnhfecjnaa
open Go.RowKit
set_option linter.unusedVariables false

set_option maxHeartbeats 2000000 in
theorem implMake_any (n d : Int) (w : World) (h : I64 n) (h' : I64 d) :
    Calls Try.prog 41 #[.int .i64 n, .int .i64 d] w fun e w' => e = .returned (.tuple #[.agg #[.int .i64 (mkN n d), .int .i64 (mkD n d)], .int .i64 (mkC n d)]) ∧ Below w.heap.size w w' := by
  obtain ⟨n1, n2⟩ := h
  obtain ⟨d1, d2⟩ := h'
  by_cases hd : d = 0
  · subst hd
    have H := Lib.hid (mk_zero n)
    go_enter Try.func41, Try.ntmps41
    go_wp2
    exact bodyPost_ret (v := .tuple #[.agg #[.int .i64 0, .int .i64 0], .int .i64 1]) (by simp [results, Try.results41, go_sem]) rfl ⟨ret_frac H.out.1 H.out.2.1 H.out.2.2, ((Below.refl _ _).alloc (Nat.le_refl _) _)⟩
  · have ha := absI_lo n
    have ha' := absI_hi n1 n2
    have hb := absI_pos hd
    have hb' := absI_hi d1 d2
    have hg := gcdI_pos (absI n) (absI d) hb
    have hg' := gcdI_le (absI n) (absI d) hb
    have hq : 0 ≤ absI n / gcdI (absI n) (absI d) := mkA_lo n d
    have hr : 0 ≤ absI d / gcdI (absI n) (absI d) := mkB_lo n d
    by_cases hx : mkA n d ≤ 1000000000
    · by_cases hy : mkB n d ≤ 1000000
      · have hbad : mkBad n d = false := by simp [mkBad]; omega
        have hx' : absI n / gcdI (absI n) (absI d) ≤ 1000000000 := hx
        have hy' : absI d / gcdI (absI n) (absI d) ≤ 1000000 := hy
        have HS := Lib.hid (mk_same hd hbad)
        have HD := Lib.hid (mk_differ hd hbad)
        clear hx hy hbad
        by_cases s1 : n < 0
        · by_cases s2 : d < 0
          · have K := HS.out (by simp [s1, s2])
            have H := Lib.hid K
            clear K HS HD
            go_enter Try.func41, Try.ntmps41
            go_wp2_with (first | (go_at_call 50; refine (implAbs_any _ _ (by omega) (by omega)).mono ?_; rintro e w' ⟨rfl, rfl⟩) | (go_at_call 51; refine (implGcd_any _ _ _ (by omega) (by omega) (by omega) (by omega)).mono ?_; rintro e w' ⟨rfl, k, rfl⟩))
            try (go_quiet (fail); go_wp2)
            exact bodyPost_ret (v := .tuple #[.agg #[.int .i64 (absI n / gcdI (absI n) (absI d)), .int .i64 (absI d / gcdI (absI n) (absI d))], .int .i64 0]) (by simp [results, Try.results41, go_sem]) rfl ⟨ret_frac H.out.1 H.out.2.1 H.out.2.2, by (repeat (first | exact Below.refl _ _ | assumption | refine Below.setCell ?_ (by (try simp) <;> omega) _ | refine Below.alloc ?_ (by (try simp) <;> omega) _ | refine below_drewN_ ?_ | refine Below.drew ?_))⟩
          · have K := HD.out (by simp [s1, s2])
            have H := Lib.hid K
            clear K HS HD
            have t1 : decide (n < 0) = true := by simp; omega
            have t2 : decide (d < 0) = false := by simp; omega
            go_enter Try.func41, Try.ntmps41
            go_wp2_with (first | (go_at_call 50; refine (implAbs_any _ _ (by omega) (by omega)).mono ?_; rintro e w' ⟨rfl, rfl⟩) | (go_at_call 51; refine (implGcd_any _ _ _ (by omega) (by omega) (by omega) (by omega)).mono ?_; rintro e w' ⟨rfl, k, rfl⟩))
            try (go_quiet (fail); go_wp2)
            exact bodyPost_ret (v := .tuple #[.agg #[.int .i64 (-(absI n / gcdI (absI n) (absI d))), .int .i64 (absI d / gcdI (absI n) (absI d))], .int .i64 0]) (by simp [results, Try.results41, go_sem]) rfl ⟨ret_frac H.out.1 H.out.2.1 H.out.2.2, by (repeat (first | exact Below.refl _ _ | assumption | refine Below.setCell ?_ (by (try simp) <;> omega) _ | refine Below.alloc ?_ (by (try simp) <;> omega) _ | refine below_drewN_ ?_ | refine Below.drew ?_))⟩
        · by_cases s2 : d < 0
          · have K := HD.out (by simp [s1, s2])
            have H := Lib.hid K
            clear K HS HD
            have t1 : decide (n < 0) = false := by simp; omega
            have t2 : decide (d < 0) = true := by simp; omega
            go_enter Try.func41, Try.ntmps41
            go_wp2_with (first | (go_at_call 50; refine (implAbs_any _ _ (by omega) (by omega)).mono ?_; rintro e w' ⟨rfl, rfl⟩) | (go_at_call 51; refine (implGcd_any _ _ _ (by omega) (by omega) (by omega) (by omega)).mono ?_; rintro e w' ⟨rfl, k, rfl⟩))
            try (go_quiet (fail); go_wp2)
            exact bodyPost_ret (v := .tuple #[.agg #[.int .i64 (-(absI n / gcdI (absI n) (absI d))), .int .i64 (absI d / gcdI (absI n) (absI d))], .int .i64 0]) (by simp [results, Try.results41, go_sem]) rfl ⟨ret_frac H.out.1 H.out.2.1 H.out.2.2, by (repeat (first | exact Below.refl _ _ | assumption | refine Below.setCell ?_ (by (try simp) <;> omega) _ | refine Below.alloc ?_ (by (try simp) <;> omega) _ | refine below_drewN_ ?_ | refine Below.drew ?_))⟩
          · have K := HS.out (by simp [s1, s2])
            have H := Lib.hid K
            clear K HS HD
            have t1 : decide (n < 0) = false := by simp; omega
            have t2 : decide (d < 0) = false := by simp; omega
            go_enter Try.func41, Try.ntmps41
            go_wp2_with (first | (go_at_call 50; refine (implAbs_any _ _ (by omega) (by omega)).mono ?_; rintro e w' ⟨rfl, rfl⟩) | (go_at_call 51; refine (implGcd_any _ _ _ (by omega) (by omega) (by omega) (by omega)).mono ?_; rintro e w' ⟨rfl, k, rfl⟩))
            try (go_quiet (fail); go_wp2)
            exact bodyPost_ret (v := .tuple #[.agg #[.int .i64 (absI n / gcdI (absI n) (absI d)), .int .i64 (absI d / gcdI (absI n) (absI d))], .int .i64 0]) (by simp [results, Try.results41, go_sem]) rfl ⟨ret_frac H.out.1 H.out.2.1 H.out.2.2, by (repeat (first | exact Below.refl _ _ | assumption | refine Below.setCell ?_ (by (try simp) <;> omega) _ | refine Below.alloc ?_ (by (try simp) <;> omega) _ | refine below_drewN_ ?_ | refine Below.drew ?_))⟩
      · have H := Lib.hid (mk_bad (n := n) hd (by simp [mkBad]; omega))
        have hx' : absI n / gcdI (absI n) (absI d) ≤ 1000000000 := hx
        have hy' : 1000000 < absI d / gcdI (absI n) (absI d) := by have : ¬ absI d / gcdI (absI n) (absI d) ≤ 1000000 := hy; omega
        clear hx hy
        go_enter Try.func41, Try.ntmps41
        go_wp2_with (first | (go_at_call 50; refine (implAbs_any _ _ (by omega) (by omega)).mono ?_; rintro e w' ⟨rfl, rfl⟩) | (go_at_call 51; refine (implGcd_any _ _ _ (by omega) (by omega) (by omega) (by omega)).mono ?_; rintro e w' ⟨rfl, k, rfl⟩))
        try (go_quiet (fail); go_wp2)
        exact bodyPost_ret (v := .tuple #[.agg #[.int .i64 0, .int .i64 0], .int .i64 2]) (by simp [results, Try.results41, go_sem]) rfl ⟨ret_frac H.out.1 H.out.2.1 H.out.2.2, by (repeat (first | exact Below.refl _ _ | assumption | refine Below.setCell ?_ (by (try simp) <;> omega) _ | refine Below.alloc ?_ (by (try simp) <;> omega) _ | refine below_drewN_ ?_ | refine Below.drew ?_))⟩
    · have H := Lib.hid (mk_bad (n := n) hd (by simp [mkBad]; omega))
      have hx' : 1000000000 < absI n / gcdI (absI n) (absI d) := by have : ¬ absI n / gcdI (absI n) (absI d) ≤ 1000000000 := hx; omega
      clear hx
      go_enter Try.func41, Try.ntmps41
      go_wp2_with (first | (go_at_call 50; refine (implAbs_any _ _ (by omega) (by omega)).mono ?_; rintro e w' ⟨rfl, rfl⟩) | (go_at_call 51; refine (implGcd_any _ _ _ (by omega) (by omega) (by omega) (by omega)).mono ?_; rintro e w' ⟨rfl, k, rfl⟩))
      try (go_quiet (fail); go_wp2)
      exact bodyPost_ret (v := .tuple #[.agg #[.int .i64 0, .int .i64 0], .int .i64 2]) (by simp [results, Try.results41, go_sem]) rfl ⟨ret_frac H.out.1 H.out.2.1 H.out.2.2, by (repeat (first | exact Below.refl _ _ | assumption | refine Below.setCell ?_ (by (try simp) <;> omega) _ | refine Below.alloc ?_ (by (try simp) <;> omega) _ | refine below_drewN_ ?_ | refine Below.drew ?_))⟩
set_option maxHeartbeats 2000000 in
theorem specMake_any (n d : Int) (w : World) (h : I64 n) (h' : I64 d) :
    Calls Try.prog 40 #[.int .i64 n, .int .i64 d] w fun e w' => e = .returned (.tuple #[.agg #[.int .i64 (mkN n d), .int .i64 (mkD n d)], .int .i64 (mkC n d)]) ∧ Below w.heap.size w w' := by
  obtain ⟨n1, n2⟩ := h
  obtain ⟨d1, d2⟩ := h'
  by_cases hd : d = 0
  · subst hd
    have H := Lib.hid (mk_zero n)
    go_enter Try.func40, Try.ntmps40
    go_wp2
    exact bodyPost_ret (v := .tuple #[.agg #[.int .i64 0, .int .i64 0], .int .i64 1]) (by simp [results, Try.results40, go_sem]) rfl ⟨ret_frac H.out.1 H.out.2.1 H.out.2.2, ((Below.refl _ _).alloc (Nat.le_refl _) _)⟩
  · have ha := absI_lo n
    have ha' := absI_hi n1 n2
    have hb := absI_pos hd
    have hb' := absI_hi d1 d2
    have hg := gcdI_pos (absI n) (absI d) hb
    have hg' := gcdI_le (absI n) (absI d) hb
    have hq : 0 ≤ absI n / gcdI (absI n) (absI d) := mkA_lo n d
    have hr : 0 ≤ absI d / gcdI (absI n) (absI d) := mkB_lo n d
    by_cases hx : mkA n d ≤ 1000000000
    · by_cases hy : mkB n d ≤ 1000000
      · have hbad : mkBad n d = false := by simp [mkBad]; omega
        have hx' : absI n / gcdI (absI n) (absI d) ≤ 1000000000 := hx
        have hy' : absI d / gcdI (absI n) (absI d) ≤ 1000000 := hy
        have HS := Lib.hid (mk_same hd hbad)
        have HD := Lib.hid (mk_differ hd hbad)
        clear hx hy hbad
        by_cases s1 : n < 0
        · by_cases s2 : d < 0
          · have K := HS.out (by simp [s1, s2])
            have H := Lib.hid K
            clear K HS HD
            go_enter Try.func40, Try.ntmps40
            go_wp2_with (first | (go_at_call 49; refine (specAbs_any _ _ (by omega) (by omega)).mono ?_; rintro e w' ⟨rfl, rfl⟩) | (go_at_call 48; refine (specGcd_any _ _ _ (by omega) (by omega) (by omega) (by omega)).mono ?_; rintro e w' ⟨rfl, k, rfl⟩))
            try (go_quiet (fail); go_wp2)
            exact bodyPost_ret (v := .tuple #[.agg #[.int .i64 (absI n / gcdI (absI n) (absI d)), .int .i64 (absI d / gcdI (absI n) (absI d))], .int .i64 0]) (by simp [results, Try.results40, go_sem]) rfl ⟨ret_frac H.out.1 H.out.2.1 H.out.2.2, by (repeat (first | exact Below.refl _ _ | assumption | refine Below.setCell ?_ (by (try simp) <;> omega) _ | refine Below.alloc ?_ (by (try simp) <;> omega) _ | refine below_drewN_ ?_ | refine Below.drew ?_))⟩
          · have K := HD.out (by simp [s1, s2])
            have H := Lib.hid K
            clear K HS HD
            have t1 : decide (n < 0) = true := by simp; omega
            have t2 : decide (d < 0) = false := by simp; omega
            go_enter Try.func40, Try.ntmps40
            go_wp2_with (first | (go_at_call 49; refine (specAbs_any _ _ (by omega) (by omega)).mono ?_; rintro e w' ⟨rfl, rfl⟩) | (go_at_call 48; refine (specGcd_any _ _ _ (by omega) (by omega) (by omega) (by omega)).mono ?_; rintro e w' ⟨rfl, k, rfl⟩))
            try (go_quiet (fail); go_wp2)
            exact bodyPost_ret (v := .tuple #[.agg #[.int .i64 (-(absI n / gcdI (absI n) (absI d))), .int .i64 (absI d / gcdI (absI n) (absI d))], .int .i64 0]) (by simp [results, Try.results40, go_sem]) rfl ⟨ret_frac H.out.1 H.out.2.1 H.out.2.2, by (repeat (first | exact Below.refl _ _ | assumption | refine Below.setCell ?_ (by (try simp) <;> omega) _ | refine Below.alloc ?_ (by (try simp) <;> omega) _ | refine below_drewN_ ?_ | refine Below.drew ?_))⟩
        · by_cases s2 : d < 0
          · have K := HD.out (by simp [s1, s2])
            have H := Lib.hid K
            clear K HS HD
            have t1 : decide (n < 0) = false := by simp; omega
            have t2 : decide (d < 0) = true := by simp; omega
            go_enter Try.func40, Try.ntmps40
            go_wp2_with (first | (go_at_call 49; refine (specAbs_any _ _ (by omega) (by omega)).mono ?_; rintro e w' ⟨rfl, rfl⟩) | (go_at_call 48; refine (specGcd_any _ _ _ (by omega) (by omega) (by omega) (by omega)).mono ?_; rintro e w' ⟨rfl, k, rfl⟩))
            try (go_quiet (fail); go_wp2)
            exact bodyPost_ret (v := .tuple #[.agg #[.int .i64 (-(absI n / gcdI (absI n) (absI d))), .int .i64 (absI d / gcdI (absI n) (absI d))], .int .i64 0]) (by simp [results, Try.results40, go_sem]) rfl ⟨ret_frac H.out.1 H.out.2.1 H.out.2.2, by (repeat (first | exact Below.refl _ _ | assumption | refine Below.setCell ?_ (by (try simp) <;> omega) _ | refine Below.alloc ?_ (by (try simp) <;> omega) _ | refine below_drewN_ ?_ | refine Below.drew ?_))⟩
          · have K := HS.out (by simp [s1, s2])
            have H := Lib.hid K
            clear K HS HD
            have t1 : decide (n < 0) = false := by simp; omega
            have t2 : decide (d < 0) = false := by simp; omega
            go_enter Try.func40, Try.ntmps40
            go_wp2_with (first | (go_at_call 49; refine (specAbs_any _ _ (by omega) (by omega)).mono ?_; rintro e w' ⟨rfl, rfl⟩) | (go_at_call 48; refine (specGcd_any _ _ _ (by omega) (by omega) (by omega) (by omega)).mono ?_; rintro e w' ⟨rfl, k, rfl⟩))
            try (go_quiet (fail); go_wp2)
            exact bodyPost_ret (v := .tuple #[.agg #[.int .i64 (absI n / gcdI (absI n) (absI d)), .int .i64 (absI d / gcdI (absI n) (absI d))], .int .i64 0]) (by simp [results, Try.results40, go_sem]) rfl ⟨ret_frac H.out.1 H.out.2.1 H.out.2.2, by (repeat (first | exact Below.refl _ _ | assumption | refine Below.setCell ?_ (by (try simp) <;> omega) _ | refine Below.alloc ?_ (by (try simp) <;> omega) _ | refine below_drewN_ ?_ | refine Below.drew ?_))⟩
      · have H := Lib.hid (mk_bad (n := n) hd (by simp [mkBad]; omega))
        have hx' : absI n / gcdI (absI n) (absI d) ≤ 1000000000 := hx
        have hy' : 1000000 < absI d / gcdI (absI n) (absI d) := by have : ¬ absI d / gcdI (absI n) (absI d) ≤ 1000000 := hy; omega
        clear hx hy
        go_enter Try.func40, Try.ntmps40
        go_wp2_with (first | (go_at_call 49; refine (specAbs_any _ _ (by omega) (by omega)).mono ?_; rintro e w' ⟨rfl, rfl⟩) | (go_at_call 48; refine (specGcd_any _ _ _ (by omega) (by omega) (by omega) (by omega)).mono ?_; rintro e w' ⟨rfl, k, rfl⟩))
        try (go_quiet (fail); go_wp2)
        exact bodyPost_ret (v := .tuple #[.agg #[.int .i64 0, .int .i64 0], .int .i64 2]) (by simp [results, Try.results40, go_sem]) rfl ⟨ret_frac H.out.1 H.out.2.1 H.out.2.2, by (repeat (first | exact Below.refl _ _ | assumption | refine Below.setCell ?_ (by (try simp) <;> omega) _ | refine Below.alloc ?_ (by (try simp) <;> omega) _ | refine below_drewN_ ?_ | refine Below.drew ?_))⟩
    · have H := Lib.hid (mk_bad (n := n) hd (by simp [mkBad]; omega))
      have hx' : 1000000000 < absI n / gcdI (absI n) (absI d) := by have : ¬ absI n / gcdI (absI n) (absI d) ≤ 1000000000 := hx; omega
      clear hx
      go_enter Try.func40, Try.ntmps40
      go_wp2_with (first | (go_at_call 49; refine (specAbs_any _ _ (by omega) (by omega)).mono ?_; rintro e w' ⟨rfl, rfl⟩) | (go_at_call 48; refine (specGcd_any _ _ _ (by omega) (by omega) (by omega) (by omega)).mono ?_; rintro e w' ⟨rfl, k, rfl⟩))
      try (go_quiet (fail); go_wp2)
      exact bodyPost_ret (v := .tuple #[.agg #[.int .i64 0, .int .i64 0], .int .i64 2]) (by simp [results, Try.results40, go_sem]) rfl ⟨ret_frac H.out.1 H.out.2.1 H.out.2.2, by (repeat (first | exact Below.refl _ _ | assumption | refine Below.setCell ?_ (by (try simp) <;> omega) _ | refine Below.alloc ?_ (by (try simp) <;> omega) _ | refine below_drewN_ ?_ | refine Below.drew ?_))⟩

end Go.Proofs.Ytiobdgnhfecjnaa
