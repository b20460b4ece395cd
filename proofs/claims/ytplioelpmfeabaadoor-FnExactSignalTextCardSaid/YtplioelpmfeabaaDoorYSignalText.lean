/- The law SignalText. -/
import Derived.Test.YtplioelpmfeabaaDoorQl
namespace Go.Proofs.YtplioelpmfeabaaDoor
open Go.RowKit
set_option linter.unusedVariables false
set_option linter.unusedSimpArgs false

set_option maxHeartbeats 2000000 in
theorem walk_FnExactSignalText (A0 : Option Addr) (c0 : Nat) (xs0 : List Int) (w : World) (h0 : SlIn w w.heap.size A0 c0 xs0) (hP : PowAt w.heap.size w) : Calls Tryd.prog 8 #[.slice A0 xs0.length c0] w fun e w' => e = .returned (.bool true) ∧ Below w.heap.size w w' := by
  obtain ⟨hs0, hi0, -⟩ := h0
  have HS0 := Lib.hid hs0
  have HI0 := Lib.hid hi0
  have HP := Lib.hid hP
  clear hs0 hi0 hP
  by_cases l0 : 1048576 < xs0.length
  · clear HS0 HI0 HP
    generalize xs0.length = m0 at *
    go_enter Tryd.func8, Tryd.ntmps8
    go_wp2
    go_ret
    exact ⟨rfl, Below.refl _ _⟩
  go_enter Tryd.func8, Tryd.ntmps8
  have B0 := Below.refl w.heap.size w
  go_wp2_with fail
  refine (toInts_any _ _ _ _ w.heap.size (HS0.out.below B0 (Nat.le_refl _)) (by omega) (by omega)).mono ?_
  rintro e w1 ⟨AS0, cS0, rfl, S0, hb1⟩
  have hz1 := hb1.size
  have B1 := nxt B0 hb1 (by omega)
  clear hb1 B0
  go_wp2_with fail
  refine (specSignalText_any _ _ _ _ (S0.arg (by omega) l0 HI0.out)).mono ?_
  rintro e w2 ⟨rfl, hb2⟩
  have hz2 := hb2.size
  have B2 := nxt B1 hb2 (by omega)
  clear hb2 B1 S0
  go_wp2_with fail
  refine (toInts_any _ _ _ _ w.heap.size (HS0.out.below B2 (Nat.le_refl _)) (by omega) (by omega)).mono ?_
  rintro e w3 ⟨AX0, cX0, rfl, X0, hb3⟩
  have hz3 := hb3.size
  have B3 := nxt B2 hb3 (by omega)
  clear hb3 B2
  go_wp2_with fail
  refine (implSignalText_any _ _ _ _ (X0.arg (by omega) l0 HI0.out) w.heap.size (HP.out.on B3) (by omega)).mono ?_
  rintro e w4 ⟨rfl, hb4⟩
  have hz4 := hb4.size
  replace X0 := X0.below hb4 (by omega)
  have B4 := nxt B3 hb4 (by omega)
  clear hb4 B3
  generalize str (textS xs0) = q at *
  go_wp2_with fail
  refine (toInts_any _ _ _ _ w.heap.size (HS0.out.below B4 (Nat.le_refl _)) (by omega) (by omega)).mono ?_
  rintro e w6 ⟨AT0, cT0, rfl, T0, hb6⟩
  have hz6 := hb6.size
  replace X0 := X0.below hb6 (by omega)
  have B6 := nxt B4 hb6 (by omega)
  clear hb6 B4
  go_wp2_with fail
  refine (eqBel_any _ _ _ _ _ _ _ _ X0.sl T0.sl (by omega)).mono ?_
  rintro e w7 ⟨rfl, hb7⟩
  have B7 := nxt B6 hb7 (by omega)
  go_wp2
  go_ret
  exact ⟨rfl, B7⟩

end Go.Proofs.YtplioelpmfeabaaDoor
