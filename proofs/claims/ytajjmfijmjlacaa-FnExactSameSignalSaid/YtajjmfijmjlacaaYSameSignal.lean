/- The law SameSignal, printed by laws.py. -/
import Derived.Test.YtajjmfijmjlacaaVc
namespace Go.Proofs.Ytajjmfijmjlacaa
open Go.RowKit
set_option linter.unusedVariables false

set_option maxHeartbeats 4000000 in
theorem walk_FnExactSameSignal (A0 : Option Addr) (c0 : Nat) (xs0 : List Int) (A1 : Option Addr) (c1 : Nat) (xs1 : List Int) (w : World) (h0 : SlIn w w.heap.size A0 c0 xs0) (h1 : SlIn w w.heap.size A1 c1 xs1) : Calls Try.prog 3 #[.slice A0 xs0.length c0, .slice A1 xs1.length c1] w fun e w' => e = .returned (.bool true) ∧ Below w.heap.size w w' := by
  obtain ⟨hs0, hi0, -⟩ := h0
  have HS0 := Lib.hid hs0
  have HI0 := Lib.hid hi0
  clear hs0 hi0
  obtain ⟨hs1, hi1, -⟩ := h1
  have HS1 := Lib.hid hs1
  have HI1 := Lib.hid hi1
  clear hs1 hi1
  by_cases l0 : 1048576 < xs0.length
  · clear HS0 HI0 HS1 HI1
    generalize xs0.length = m0 at *
    generalize xs1.length = m1 at *
    go_enter Try.func3, Try.ntmps3
    go_wp2
    go_ret
    exact ⟨rfl, Below.refl _ _⟩
  by_cases l1 : 1048576 < xs1.length
  · clear HS0 HI0 HS1 HI1
    generalize xs0.length = m0 at *
    generalize xs1.length = m1 at *
    go_enter Try.func3, Try.ntmps3
    go_wp2
    go_ret
    exact ⟨rfl, Below.refl _ _⟩
  go_enter Try.func3, Try.ntmps3
  have B0 := Below.refl w.heap.size w
  go_wp2_with fail
  refine (toInts_any _ _ _ _ w.heap.size (HS0.out.below B0 (Nat.le_refl _)) (by omega) (by omega)).mono ?_
  rintro e w1 ⟨AS0, cS0, rfl, S0, hb1⟩
  have hz1 := hb1.size
  have B1 := nxt B0 hb1 (by omega)
  clear hb1 B0
  go_wp2_with fail
  refine (toInts_any _ _ _ _ w.heap.size (HS1.out.below B1 (Nat.le_refl _)) (by omega) (by omega)).mono ?_
  rintro e w2 ⟨AS1, cS1, rfl, S1, hb2⟩
  have hz2 := hb2.size
  replace S0 := S0.below hb2 (by omega)
  have B2 := nxt B1 hb2 (by omega)
  clear hb2 B1
  go_wp2_with fail
  refine (specSameSignal_any _ _ _ _ _ _ _ (S0.arg (by omega) l0 HI0.out) (S1.arg (by omega) l1 HI1.out)).mono ?_
  rintro e w3 ⟨b, rfl, HR, hb3⟩
  have hr := Lib.hid HR
  clear HR
  have hz3 := hb3.size
  replace S0 := S0.below hb3 (by omega)
  replace S1 := S1.below hb3 (by omega)
  have B3 := nxt B2 hb3 (by omega)
  clear hb3 B2
  clear S0 S1
  go_wp2_with fail
  refine (toInts_any _ _ _ _ w.heap.size (HS0.out.below B3 (Nat.le_refl _)) (by omega) (by omega)).mono ?_
  rintro e w4 ⟨AX0, cX0, rfl, X0, hb4⟩
  have hz4 := hb4.size
  have B4 := nxt B3 hb4 (by omega)
  clear hb4 B3
  go_wp2_with fail
  refine (toInts_any _ _ _ _ w.heap.size (HS1.out.below B4 (Nat.le_refl _)) (by omega) (by omega)).mono ?_
  rintro e w5 ⟨AX1, cX1, rfl, X1, hb5⟩
  have hz5 := hb5.size
  replace X0 := X0.below hb5 (by omega)
  have B5 := nxt B4 hb5 (by omega)
  clear hb5 B4
  go_wp2_with fail
  refine (implSameSignal_any _ _ _ _ _ _ _ (X0.arg (by omega) l0 HI0.out) (X1.arg (by omega) l1 HI1.out)).mono ?_
  rintro e w6 ⟨bi, rfl, HRi, hb6⟩
  have hri := Lib.hid HRi
  clear HRi
  have hz6 := hb6.size
  replace X0 := X0.below hb6 (by omega)
  replace X1 := X1.below hb6 (by omega)
  have B6 := nxt B5 hb6 (by omega)
  clear hb6 B5
  obtain rfl := hr.out.trans hri.out.symm
  clear hri
  go_wp2_with fail
  refine (toInts_any _ _ _ _ w.heap.size (HS0.out.below B6 (Nat.le_refl _)) (by omega) (by omega)).mono ?_
  rintro e w7 ⟨AT0, cT0, rfl, T0, hb7⟩
  have hz7 := hb7.size
  replace X0 := X0.below hb7 (by omega)
  replace X1 := X1.below hb7 (by omega)
  have B7 := nxt B6 hb7 (by omega)
  clear hb7 B6
  go_wp2_with fail
  refine (eqBel_any _ _ _ _ _ _ _ _ X0.sl T0.sl (by omega)).mono ?_
  rintro e w8 ⟨rfl, hb8⟩
  have hz8 := hb8.size
  replace X0 := X0.below hb8 (by omega)
  replace X1 := X1.below hb8 (by omega)
  replace T0 := T0.below hb8 (by omega)
  have B8 := nxt B7 hb8 (by omega)
  clear hb8 B7
  clear T0
  go_wp2_with fail
  refine (toInts_any _ _ _ _ w.heap.size (HS1.out.below B8 (Nat.le_refl _)) (by omega) (by omega)).mono ?_
  rintro e w9 ⟨AT1, cT1, rfl, T1, hb9⟩
  have hz9 := hb9.size
  replace X0 := X0.below hb9 (by omega)
  replace X1 := X1.below hb9 (by omega)
  have B9 := nxt B8 hb9 (by omega)
  clear hb9 B8
  go_wp2_with fail
  refine (eqBel_any _ _ _ _ _ _ _ _ X1.sl T1.sl (by omega)).mono ?_
  rintro e w10 ⟨rfl, hb10⟩
  have hz10 := hb10.size
  replace X0 := X0.below hb10 (by omega)
  replace X1 := X1.below hb10 (by omega)
  replace T1 := T1.below hb10 (by omega)
  have B10 := nxt B9 hb10 (by omega)
  clear hb10 B9
  clear T1
  go_wp2
  go_ret
  exact ⟨rfl, B10⟩

end Go.Proofs.Ytajjmfijmjlacaa
