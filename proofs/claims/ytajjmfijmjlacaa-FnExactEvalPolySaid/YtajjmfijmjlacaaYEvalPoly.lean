/- The law EvalPoly, printed by laws.py. -/
import Derived.Test.YtajjmfijmjlacaaVm
namespace Go.Proofs.Ytajjmfijmjlacaa
open Go.RowKit
set_option linter.unusedVariables false
set_option linter.unusedSimpArgs false

set_option maxHeartbeats 4000000 in
theorem walk_FnExactEvalPoly (A0 : Option Addr) (c0 : Nat) (xs0 : List Int) (n1 : Int) (w : World) (h0 : SlIn w w.heap.size A0 c0 xs0) (h1 : I64 n1) : Calls Try.prog 7 #[.slice A0 xs0.length c0, .int .i64 n1] w fun e w' => e = .returned (.bool true) ∧ Below w.heap.size w w' := by
  obtain ⟨hs0, hi0, -⟩ := h0
  have HS0 := Lib.hid hs0
  have HI0 := Lib.hid hi0
  clear hs0 hi0
  by_cases l0 : 1048576 < xs0.length
  · clear HS0 HI0
    generalize xs0.length = m0 at *
    go_enter Try.func7, Try.ntmps7
    go_wp2
    go_ret
    exact ⟨rfl, Below.refl _ _⟩
  go_enter Try.func7, Try.ntmps7
  have B0 := Below.refl w.heap.size w
  go_wp2_with fail
  refine (toInts_any _ _ _ _ w.heap.size (HS0.out.below B0 (Nat.le_refl _)) (by omega) (by omega)).mono ?_
  rintro e w1 ⟨AS0, cS0, rfl, S0, hb1⟩
  have hz1 := hb1.size
  have B1 := nxt B0 hb1 (by omega)
  clear hb1 B0
  go_wp2_with fail
  refine (specEvalPoly_any _ _ _ _ _ (S0.arg (by omega) l0 HI0.out) h1).mono ?_
  rintro e w2 ⟨n, b, rfl, HR, hb2⟩
  have hr := Lib.hid HR
  clear HR
  have hz2 := hb2.size
  replace S0 := S0.below hb2 (by omega)
  have B2 := nxt B1 hb2 (by omega)
  clear hb2 B1
  clear S0
  go_wp2_with fail
  refine (toInts_any _ _ _ _ w.heap.size (HS0.out.below B2 (Nat.le_refl _)) (by omega) (by omega)).mono ?_
  rintro e w3 ⟨AX0, cX0, rfl, X0, hb3⟩
  have hz3 := hb3.size
  have B3 := nxt B2 hb3 (by omega)
  clear hb3 B2
  go_wp2_with fail
  refine (implEvalPoly_any _ _ _ _ _ (X0.arg (by omega) l0 HI0.out) h1).mono ?_
  rintro e w4 ⟨ni, bi, rfl, HRi, hb4⟩
  have hri := Lib.hid HRi
  clear HRi
  have hz4 := hb4.size
  replace X0 := X0.below hb4 (by omega)
  have B4 := nxt B3 hb4 (by omega)
  clear hb4 B3
  obtain ⟨rfl, rfl⟩ := Prod.mk.inj (hr.out.trans hri.out.symm)
  clear hri
  go_wp2_with fail
  refine (toInts_any _ _ _ _ w.heap.size (HS0.out.below B4 (Nat.le_refl _)) (by omega) (by omega)).mono ?_
  rintro e w5 ⟨AT0, cT0, rfl, T0, hb5⟩
  have hz5 := hb5.size
  replace X0 := X0.below hb5 (by omega)
  have B5 := nxt B4 hb5 (by omega)
  clear hb5 B4
  go_wp2_with fail
  refine (eqBel_any _ _ _ _ _ _ _ _ X0.sl T0.sl (by omega)).mono ?_
  rintro e w6 ⟨rfl, hb6⟩
  have hz6 := hb6.size
  replace X0 := X0.below hb6 (by omega)
  replace T0 := T0.below hb6 (by omega)
  have B6 := nxt B5 hb6 (by omega)
  clear hb6 B5
  clear T0
  go_wp2
  go_ret
  exact ⟨rfl, B6⟩

end Go.Proofs.Ytajjmfijmjlacaa
