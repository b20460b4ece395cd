/- Walks: the floor, the order; reading and comparing fractions in the laws. -/
import Derived.Test.YtpmejklchelgeaaWb
namespace Go.Proofs.Ytpmejklchelgeaa
open Go.RowKit
set_option linter.unusedVariables false

theorem floorDiv_any (a b : Int) (w : World) (h : I64 a) (h' : 1 ≤ b) (h'' : b ≤ 9223372036854775807) :
    Calls Try.prog 56 #[.int .i64 a, .int .i64 b] w fun e w' => e = .returned (.int .i64 (fdiv a b)) ∧ w = w' := by
  obtain ⟨a1, a2⟩ := h
  by_cases h0 : a.tmod b < 0
  · have H := Lib.hid (fdiv_neg h' h0)
    go_enter Try.func56, Try.ntmps56
    go_wp2
    go_ret
    exact ⟨ret_int (by rw [H.out]; exact IntWalk.wrap64_in _ (fdiv_in a1 a2 h')), rfl⟩
  · have H := Lib.hid (fdiv_nonneg (a := a) (b := b) (by omega))
    go_enter Try.func56, Try.ntmps56
    go_wp2
    go_ret
    exact ⟨ret_int H.out, rfl⟩
theorem l02Div_any (a b : Int) (w : World) (h : I64 a) (h' : 1 ≤ b) (h'' : b ≤ 9223372036854775807) :
    Calls Try.prog 55 #[.int .i64 a, .int .i64 b] w fun e w' => e = .returned (.int .i64 (fdiv a b)) ∧ w = w' := by
  obtain ⟨a1, a2⟩ := h
  by_cases h0 : a.tmod b < 0
  · have H := Lib.hid (fdiv_neg h' h0)
    go_enter Try.func55, Try.ntmps55
    go_wp2
    go_ret
    exact ⟨ret_int (by rw [H.out]; exact IntWalk.wrap64_in _ (fdiv_in a1 a2 h')), rfl⟩
  · have H := Lib.hid (fdiv_nonneg (a := a) (b := b) (by omega))
    go_enter Try.func55, Try.ntmps55
    go_wp2
    go_ret
    exact ⟨ret_int H.out, rfl⟩
theorem toFrac_any (n d : Int) (w : World) :
    Calls Try.prog 30 #[.agg #[.int .i64 n, .int .i64 d]] w fun e w' => e = .returned (.agg #[.int .i64 n, .int .i64 d]) ∧ Below w.heap.size w w' := by
  go_enter Try.func30, Try.ntmps30
  go_wp2
  exact bodyPost_ret (v := .agg #[.int .i64 n, .int .i64 d]) (by simp [results, Try.results30, go_sem]) rfl ⟨rfl, by (repeat (first | exact Below.refl _ _ | assumption | refine Below.setCell ?_ (by (try simp) <;> omega) _ | refine Below.alloc ?_ (by (try simp) <;> omega) _ | refine below_drewN_ ?_ | refine Below.drew ?_))⟩
theorem eqFrac_any (a b : Int) (w : World) :
    Calls Try.prog 38 #[.agg #[.int .i64 a, .int .i64 b], .agg #[.int .i64 a, .int .i64 b]] w fun e w' => e = .returned (.bool true) ∧ Below w.heap.size w w' := by
  go_enter Try.func38, Try.ntmps38
  go_wp2
  go_ret
  exact ⟨rfl, by (repeat (first | exact Below.refl _ _ | assumption | refine Below.setCell ?_ (by (try simp) <;> omega) _ | refine Below.alloc ?_ (by (try simp) <;> omega) _ | refine below_drewN_ ?_ | refine Below.drew ?_))⟩

/-- The floor of a fraction; 0 if it is not valid. -/
def flF (n d : Int) : Int := if okF n d then fdiv n d else 0
theorem flF_ok {n d : Int} (h : okF n d = true) : fdiv n d = flF n d := by simp [flF, h]
theorem flF_no {n d : Int} (h : okF n d = false) : (0 : Int) = flF n d := by simp [flF, h]
theorem implValid_any (n d : Int) (w : World) (h : I64 n) (h' : I64 d) :
    Calls Try.prog 31 #[.agg #[.int .i64 n, .int .i64 d]] w fun e w' => e = .returned (.bool (okF n d)) ∧ Below w.heap.size w w' := by
  go_enter Try.func31, Try.ntmps31
  go_wp2_with (go_at_call 50; refine (isFrac_any _ _ _ h h').mono ?_; rintro e w1 ⟨rfl, hb1⟩)
  go_ret
  exact ⟨rfl, nxt (by (repeat (first | exact Below.refl _ _ | assumption | refine Below.setCell ?_ (by (try simp) <;> omega) _ | refine Below.alloc ?_ (by (try simp) <;> omega) _ | refine below_drewN_ ?_ | refine Below.drew ?_))) hb1 (by simp)⟩
theorem specValid_any (n d : Int) (w : World) (h : I64 n) (h' : I64 d) :
    Calls Try.prog 29 #[.agg #[.int .i64 n, .int .i64 d]] w fun e w' => e = .returned (.bool (okF n d)) ∧ Below w.heap.size w w' := by
  go_enter Try.func29, Try.ntmps29
  go_wp2_with (go_at_call 49; refine (l02Ok_any _ _ _ h h').mono ?_; rintro e w1 ⟨rfl, hb1⟩)
  go_ret
  exact ⟨rfl, nxt (by (repeat (first | exact Below.refl _ _ | assumption | refine Below.setCell ?_ (by (try simp) <;> omega) _ | refine Below.alloc ?_ (by (try simp) <;> omega) _ | refine below_drewN_ ?_ | refine Below.drew ?_))) hb1 (by simp)⟩
theorem implFloor_any (n d : Int) (w : World) (h : I64 n) (h' : I64 d) :
    Calls Try.prog 35 #[.agg #[.int .i64 n, .int .i64 d]] w fun e w' => e = .returned (.int .i64 (flF n d)) ∧ Below w.heap.size w w' := by
  cases hok : okF n d
  · have H := Lib.hid (flF_no hok)
    go_enter Try.func35, Try.ntmps35
    go_wp2_with (go_at_call 50; refine (isFrac_any _ _ _ h h').mono ?_; rintro e w1 ⟨rfl, hb1⟩)
    go_ret
    exact ⟨ret_int H.out, nxt (by (repeat (first | exact Below.refl _ _ | assumption | refine Below.setCell ?_ (by (try simp) <;> omega) _ | refine Below.alloc ?_ (by (try simp) <;> omega) _ | refine below_drewN_ ?_ | refine Below.drew ?_))) hb1 (by simp)⟩
  · have H := Lib.hid (flF_ok hok)
    obtain ⟨k1, k2, -, -, -⟩ := okF_inv hok
    go_enter Try.func35, Try.ntmps35
    go_wp2_with fail
    refine (isFrac_any _ _ _ h h').mono ?_
    rintro e w1 ⟨rfl, hb1⟩
    obtain ⟨hc1, hf1⟩ := bcell hb1
    go_wp2_with (go_at_call 56; refine (floorDiv_any _ _ _ h k1 (by omega)).mono ?_; rintro e w1 ⟨rfl, rfl⟩)
    go_ret
    exact ⟨ret_int H.out, nxt (by (repeat (first | exact Below.refl _ _ | assumption | refine Below.setCell ?_ (by (try simp) <;> omega) _ | refine Below.alloc ?_ (by (try simp) <;> omega) _ | refine below_drewN_ ?_ | refine Below.drew ?_))) hb1 (by simp)⟩
theorem specFloor_any (n d : Int) (w : World) (h : I64 n) (h' : I64 d) :
    Calls Try.prog 34 #[.agg #[.int .i64 n, .int .i64 d]] w fun e w' => e = .returned (.int .i64 (flF n d)) ∧ Below w.heap.size w w' := by
  cases hok : okF n d
  · have H := Lib.hid (flF_no hok)
    go_enter Try.func34, Try.ntmps34
    go_wp2_with (go_at_call 49; refine (l02Ok_any _ _ _ h h').mono ?_; rintro e w1 ⟨rfl, hb1⟩)
    go_ret
    exact ⟨ret_int H.out, nxt (by (repeat (first | exact Below.refl _ _ | assumption | refine Below.setCell ?_ (by (try simp) <;> omega) _ | refine Below.alloc ?_ (by (try simp) <;> omega) _ | refine below_drewN_ ?_ | refine Below.drew ?_))) hb1 (by simp)⟩
  · have H := Lib.hid (flF_ok hok)
    obtain ⟨k1, k2, -, -, -⟩ := okF_inv hok
    go_enter Try.func34, Try.ntmps34
    go_wp2_with fail
    refine (l02Ok_any _ _ _ h h').mono ?_
    rintro e w1 ⟨rfl, hb1⟩
    obtain ⟨hc1, hf1⟩ := bcell hb1
    go_wp2_with (go_at_call 55; refine (l02Div_any _ _ _ h k1 (by omega)).mono ?_; rintro e w1 ⟨rfl, rfl⟩)
    go_ret
    exact ⟨ret_int H.out, nxt (by (repeat (first | exact Below.refl _ _ | assumption | refine Below.setCell ?_ (by (try simp) <;> omega) _ | refine Below.alloc ?_ (by (try simp) <;> omega) _ | refine below_drewN_ ?_ | refine Below.drew ?_))) hb1 (by simp)⟩

end Go.Proofs.Ytpmejklchelgeaa
