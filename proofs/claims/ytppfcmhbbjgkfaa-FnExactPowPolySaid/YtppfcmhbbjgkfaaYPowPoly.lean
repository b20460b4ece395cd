/- The law PowPoly, printed by laws.py. -/
import Derived.Test.YtppfcmhbbjgkfaaVr
namespace Go.Proofs.Ytppfcmhbbjgkfaa
open Go.RowKit
set_option linter.unusedVariables false
set_option linter.unusedSimpArgs false

set_option maxHeartbeats 4000000 in
theorem walk_FnExactPowPoly (A0 : Option Addr) (c0 : Nat) (xs0 : List Int) (n1 : Int) (w : World) (h0 : SlIn w w.heap.size A0 c0 xs0) (h1 : I64 n1) : Calls Try.prog 11 #[.slice A0 xs0.length c0, .int .i64 n1] w fun e w' => e = .returned (.bool true) ∧ Below w.heap.size w w' := by
  obtain ⟨hs0, hi0, -⟩ := h0
  have HS0 := Lib.hid hs0
  have HI0 := Lib.hid hi0
  clear hs0 hi0
  by_cases l0 : 1048576 < xs0.length
  · clear HS0 HI0
    generalize xs0.length = m0 at *
    go_enter Try.func11, Try.ntmps11
    go_wp2
    go_ret
    exact ⟨rfl, Below.refl _ _⟩
  go_enter Try.func11, Try.ntmps11
  have B0 := Below.refl w.heap.size w
  go_wp2_with fail
  refine (toInts_any _ _ _ _ w.heap.size (HS0.out.below B0 (Nat.le_refl _)) (by omega) (by omega)).mono ?_
  rintro e w1 ⟨AS0, cS0, rfl, S0, hb1⟩
  have hz1 := hb1.size
  have B1 := nxt B0 hb1 (by omega)
  clear hb1 B0
  go_wp2_with fail
  refine (specPowPoly_any _ _ _ _ _ (S0.arg (by omega) l0 HI0.out) h1).mono ?_
  rintro e w2 ⟨ys, code, A, c, rfl, HR, len, G, hb2⟩
  have hr := Lib.hid HR
  clear HR
  have hz2 := hb2.size
  replace S0 := S0.below hb2 (by omega)
  have B2 := nxt B1 hb2 (by omega)
  clear hb2 B1
  clear S0
  go_wp2_with fail
  refine (toInts_any _ _ _ _ w.heap.size (HS0.out.below B2 (Nat.le_refl _)) (by omega) (by omega)).mono ?_
  rintro e w3 ⟨AX0, cX0, rfl, X0, hb3⟩
  have hz3 := hb3.size
  replace G := G.below hb3 (by omega)
  have B3 := nxt B2 hb3 (by omega)
  clear hb3 B2
  go_wp2_with fail
  refine (implPowPoly_any _ _ _ _ _ (X0.arg (by omega) l0 HI0.out) h1).mono ?_
  rintro e w4 ⟨ysi, codei, Ai, ci, rfl, HRi, leni, Gi, hb4⟩
  have hri := Lib.hid HRi
  clear HRi
  have hz4 := hb4.size
  replace G := G.below hb4 (by omega)
  replace X0 := X0.below hb4 (by omega)
  have B4 := nxt B3 hb4 (by omega)
  clear hb4 B3
  obtain ⟨rfl, rfl⟩ := Prod.mk.inj (hr.out.trans hri.out.symm)
  clear hri
  go_wp2_with fail
  refine (eqBel_any _ _ _ _ _ _ _ _ Gi.sl G.sl (by omega)).mono ?_
  rintro e w5 ⟨rfl, hb5⟩
  have hz5 := hb5.size
  replace G := G.below hb5 (by omega)
  replace X0 := X0.below hb5 (by omega)
  replace Gi := Gi.below hb5 (by omega)
  have B5 := nxt B4 hb5 (by omega)
  clear hb5 B4
  go_wp2_with fail
  refine (toInts_any _ _ _ _ w.heap.size (HS0.out.below B5 (Nat.le_refl _)) (by omega) (by omega)).mono ?_
  rintro e w6 ⟨AT0, cT0, rfl, T0, hb6⟩
  have hz6 := hb6.size
  replace G := G.below hb6 (by omega)
  replace X0 := X0.below hb6 (by omega)
  replace Gi := Gi.below hb6 (by omega)
  have B6 := nxt B5 hb6 (by omega)
  clear hb6 B5
  go_wp2_with fail
  refine (eqBel_any _ _ _ _ _ _ _ _ X0.sl T0.sl (by omega)).mono ?_
  rintro e w7 ⟨rfl, hb7⟩
  have hz7 := hb7.size
  replace G := G.below hb7 (by omega)
  replace X0 := X0.below hb7 (by omega)
  replace Gi := Gi.below hb7 (by omega)
  replace T0 := T0.below hb7 (by omega)
  have B7 := nxt B6 hb7 (by omega)
  clear hb7 B6
  clear T0
  go_wp2_with fail
  refine (mark_any _ _ _ _ _ _ _ X0 (by omega) (by omega) (by omega)).mono ?_
  rintro e w8 ⟨rfl, zs8, hzl8, hmk8, M8, hon8⟩
  have hz8 := hon8.size
  have HZL8 := Lib.hid hzl8
  have HMK8 := Lib.hid hmk8
  clear hzl8 hmk8 X0
  replace G := G.only hon8 (by omega)
  replace Gi := Gi.only hon8 (by omega)
  have B8 := B7.trans (hon8.below (B := w.heap.size) (by omega) (by omega))
  clear hon8 B7
  go_wp2_with fail
  refine (eqBel_any _ _ _ _ _ _ _ _ Gi.sl G.sl (by omega)).mono ?_
  rintro e w9 ⟨rfl, hb9⟩
  have hz9 := hb9.size
  replace G := G.below hb9 (by omega)
  replace Gi := Gi.below hb9 (by omega)
  have B9 := nxt B8 hb9 (by omega)
  clear hb9 B8
  go_wp2_with fail
  refine (mark_any _ _ _ _ _ _ _ Gi (by omega) (by omega) (by omega)).mono ?_
  rintro e w10 ⟨rfl, zs10, hzl10, hmk10, M10, hon10⟩
  have hz10 := hon10.size
  have HZL10 := Lib.hid hzl10
  have HMK10 := Lib.hid hmk10
  clear hzl10 hmk10 Gi
  replace G := G.only hon10 (by omega)
  have B10 := B9.trans (hon10.below (B := w.heap.size) (by omega) (by omega))
  clear hon10 B9
  go_wp2_with fail
  refine (heldN_any _ _ _ _ HZL10.out _ _ _ M10.sl HMK10.out (by omega) (by omega) (by omega)).mono ?_
  rintro e wh ⟨rfl, rfl⟩
  go_wp2_with fail
  refine (toInts_any _ _ _ _ w.heap.size (HS0.out.below B10 (Nat.le_refl _)) (by omega) (by omega)).mono ?_
  rintro e w11 ⟨AY0, cY0, rfl, Y0, hb11⟩
  have hz11 := hb11.size
  replace G := G.below hb11 (by omega)
  replace M10 := M10.below hb11 (by omega)
  have B11 := nxt B10 hb11 (by omega)
  clear hb11 B10
  go_wp2_with fail
  refine (implPowPoly_any _ _ _ _ _ (Y0.arg (by omega) l0 HI0.out) h1).mono ?_
  rintro e w12 ⟨ysj, codej, Aj, cj, rfl, HRj, lenj, Gj, hb12⟩
  have hrj := Lib.hid HRj
  clear HRj
  have hz12 := hb12.size
  replace G := G.below hb12 (by omega)
  replace M10 := M10.below hb12 (by omega)
  replace Y0 := Y0.below hb12 (by omega)
  have B12 := nxt B11 hb12 (by omega)
  clear hb12 B11
  obtain ⟨rfl, rfl⟩ := Prod.mk.inj (hr.out.trans hrj.out.symm)
  clear hrj
  clear Y0
  go_wp2_with fail
  refine (eqBel_any _ _ _ _ _ _ _ _ Gj.sl G.sl (by omega)).mono ?_
  rintro e w13 ⟨rfl, hb13⟩
  have hz13 := hb13.size
  replace G := G.below hb13 (by omega)
  replace M10 := M10.below hb13 (by omega)
  replace Gj := Gj.below hb13 (by omega)
  have B13 := nxt B12 hb13 (by omega)
  clear hb13 B12
  go_wp2_with fail
  refine (heldN_any _ _ _ _ HZL10.out _ _ _ M10.sl HMK10.out (by omega) (by omega) (by omega)).mono ?_
  rintro e wh ⟨rfl, rfl⟩
  go_wp2
  go_ret
  exact ⟨rfl, B13⟩

end Go.Proofs.Ytppfcmhbbjgkfaa
