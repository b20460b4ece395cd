/- Walks: the floor, the order; reading and comparing fractions in the laws. -/
import Derived.Test.YtiobdgnhfecjnaaWb
namespace Go.Proofs.Ytiobdgnhfecjnaa
open Go.RowKit
set_option linter.unusedVariables false

theorem floorDiv_any (a b : Int) (w : World) (h : I64 a) (h' : 1 ≤ b) (h'' : b ≤ 9223372036854775807) :
    Calls Try.prog 44 #[.int .i64 a, .int .i64 b] w fun e w' => e = .returned (.int .i64 (fdiv a b)) ∧ w = w' := by
  obtain ⟨a1, a2⟩ := h
  by_cases h0 : a.tmod b < 0
  · have H := Lib.hid (fdiv_neg h' h0)
    go_enter Try.func44, Try.ntmps44
    go_wp2
    go_ret
    exact ⟨ret_int (by rw [H.out]; exact IntWalk.wrap64_in _ (fdiv_in a1 a2 h')), rfl⟩
  · have H := Lib.hid (fdiv_nonneg (a := a) (b := b) (by omega))
    go_enter Try.func44, Try.ntmps44
    go_wp2
    go_ret
    exact ⟨ret_int H.out, rfl⟩
theorem l02Div_any (a b : Int) (w : World) (h : I64 a) (h' : 1 ≤ b) (h'' : b ≤ 9223372036854775807) :
    Calls Try.prog 42 #[.int .i64 a, .int .i64 b] w fun e w' => e = .returned (.int .i64 (fdiv a b)) ∧ w = w' := by
  obtain ⟨a1, a2⟩ := h
  by_cases h0 : a.tmod b < 0
  · have H := Lib.hid (fdiv_neg h' h0)
    go_enter Try.func42, Try.ntmps42
    go_wp2
    go_ret
    exact ⟨ret_int (by rw [H.out]; exact IntWalk.wrap64_in _ (fdiv_in a1 a2 h')), rfl⟩
  · have H := Lib.hid (fdiv_nonneg (a := a) (b := b) (by omega))
    go_enter Try.func42, Try.ntmps42
    go_wp2
    go_ret
    exact ⟨ret_int H.out, rfl⟩
theorem toFrac_any (n d : Int) (w : World) :
    Calls Try.prog 13 #[.agg #[.int .i64 n, .int .i64 d]] w fun e w' => e = .returned (.agg #[.int .i64 n, .int .i64 d]) ∧ Below w.heap.size w w' := by
  go_enter Try.func13, Try.ntmps13
  go_wp2
  exact bodyPost_ret (v := .agg #[.int .i64 n, .int .i64 d]) (by simp [results, Try.results13, go_sem]) rfl ⟨rfl, by (repeat (first | exact Below.refl _ _ | assumption | refine Below.setCell ?_ (by (try simp) <;> omega) _ | refine Below.alloc ?_ (by (try simp) <;> omega) _ | refine below_drewN_ ?_ | refine Below.drew ?_))⟩
theorem eqFrac_any (a b : Int) (w : World) :
    Calls Try.prog 17 #[.agg #[.int .i64 a, .int .i64 b], .agg #[.int .i64 a, .int .i64 b]] w fun e w' => e = .returned (.bool true) ∧ Below w.heap.size w w' := by
  go_enter Try.func17, Try.ntmps17
  go_wp2
  go_ret
  exact ⟨rfl, by (repeat (first | exact Below.refl _ _ | assumption | refine Below.setCell ?_ (by (try simp) <;> omega) _ | refine Below.alloc ?_ (by (try simp) <;> omega) _ | refine below_drewN_ ?_ | refine Below.drew ?_))⟩

/-- The floor of a fraction; 0 if it is not valid. -/
def flF (n d : Int) : Int := if okF n d then fdiv n d else 0
theorem flF_ok {n d : Int} (h : okF n d = true) : fdiv n d = flF n d := by simp [flF, h]
theorem flF_no {n d : Int} (h : okF n d = false) : (0 : Int) = flF n d := by simp [flF, h]

end Go.Proofs.Ytiobdgnhfecjnaa
