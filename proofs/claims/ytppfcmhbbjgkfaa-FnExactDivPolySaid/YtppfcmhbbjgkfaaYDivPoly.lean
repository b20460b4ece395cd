/- The law DivPoly, printed by laws.py. -/
import Derived.Test.YtppfcmhbbjgkfaaVs
namespace Go.Proofs.Ytppfcmhbbjgkfaa
open Go.RowKit
set_option linter.unusedVariables false
set_option linter.unusedSimpArgs false

set_option maxHeartbeats 4000000 in
theorem walk_FnExactDivPoly (A0 : Option Addr) (c0 : Nat) (xs0 : List Int) (A1 : Option Addr) (c1 : Nat) (xs1 : List Int) (w : World) (h0 : SlIn w w.heap.size A0 c0 xs0) (h1 : SlIn w w.heap.size A1 c1 xs1) : Calls Try.prog 10 #[.slice A0 xs0.length c0, .slice A1 xs1.length c1] w fun e w' => e = .returned (.bool true) ∧ Below w.heap.size w w' := by
  obtain ⟨hs0, hi0, -⟩ := h0
  have HS0 := Lib.hid hs0
  have HI0 := Lib.hid hi0
  clear hs0 hi0
  obtain ⟨hs1, hi1, -⟩ := h1
  have HS1 := Lib.hid hs1
  have HI1 := Lib.hid hi1
  clear hs1 hi1
  by_cases l0 : 1048576 < xs0.length
  · clear HS0 HI0 HS1 HI1
    generalize xs0.length = m0 at *
    generalize xs1.length = m1 at *
    go_enter Try.func10, Try.ntmps10
    go_wp2
    go_ret
    exact ⟨rfl, Below.refl _ _⟩
  by_cases l1 : 1048576 < xs1.length
  · clear HS0 HI0 HS1 HI1
    generalize xs0.length = m0 at *
    generalize xs1.length = m1 at *
    go_enter Try.func10, Try.ntmps10
    go_wp2
    go_ret
    exact ⟨rfl, Below.refl _ _⟩
  go_enter Try.func10, Try.ntmps10
  have B0 := Below.refl w.heap.size w
  go_wp2_with fail
  refine (toInts_any _ _ _ _ w.heap.size (HS0.out.below B0 (Nat.le_refl _)) (by omega) (by omega)).mono ?_
  rintro e w1 ⟨AS0, cS0, rfl, S0, hb1⟩
  have hz1 := hb1.size
  have B1 := nxt B0 hb1 (by omega)
  clear hb1 B0
  go_wp2_with fail
  refine (toInts_any _ _ _ _ w.heap.size (HS1.out.below B1 (Nat.le_refl _)) (by omega) (by omega)).mono ?_
  rintro e w2 ⟨AS1, cS1, rfl, S1, hb2⟩
  have hz2 := hb2.size
  replace S0 := S0.below hb2 (by omega)
  have B2 := nxt B1 hb2 (by omega)
  clear hb2 B1
  go_wp2_with fail
  refine (specDivPoly_any _ _ _ _ _ _ _ (S0.arg (by omega) l0 HI0.out) (S1.arg (by omega) l1 HI1.out)).mono ?_
  rintro e w3 ⟨ys, zs, code, A, c, D, d, la, ha, lb, hb, rfl, HR, len, lez, G, K, q1, q2, q3, q4, q5, hb3⟩
  have hr := Lib.hid HR
  clear HR
  have hz3 := hb3.size
  replace S0 := S0.below hb3 (by omega)
  replace S1 := S1.below hb3 (by omega)
  have B3 := nxt B2 hb3 (by omega)
  clear hb3 B2
  clear S0 S1
  go_wp2_with fail
  refine (toInts_any _ _ _ _ w.heap.size (HS0.out.below B3 (Nat.le_refl _)) (by omega) (by omega)).mono ?_
  rintro e w4 ⟨AX0, cX0, rfl, X0, hb4⟩
  have hz4 := hb4.size
  replace G := G.below hb4 (by omega)
  replace K := K.below hb4 (by omega)
  have B4 := nxt B3 hb4 (by omega)
  clear hb4 B3
  go_wp2_with fail
  refine (toInts_any _ _ _ _ w.heap.size (HS1.out.below B4 (Nat.le_refl _)) (by omega) (by omega)).mono ?_
  rintro e w5 ⟨AX1, cX1, rfl, X1, hb5⟩
  have hz5 := hb5.size
  replace G := G.below hb5 (by omega)
  replace K := K.below hb5 (by omega)
  replace X0 := X0.below hb5 (by omega)
  have B5 := nxt B4 hb5 (by omega)
  clear hb5 B4
  go_wp2_with fail
  refine (implDivPoly_any _ _ _ _ _ _ _ (X0.arg (by omega) l0 HI0.out) (X1.arg (by omega) l1 HI1.out)).mono ?_
  rintro e w6 ⟨ysi, zsi, codei, Ai, ci, Di, di, lia, hia, lib, hib, rfl, HRi, leni, lezi, Gi, Ki, qi1, qi2, qi3, qi4, qi5, hb6⟩
  have hri := Lib.hid HRi
  clear HRi
  have hz6 := hb6.size
  replace G := G.below hb6 (by omega)
  replace K := K.below hb6 (by omega)
  replace X0 := X0.below hb6 (by omega)
  replace X1 := X1.below hb6 (by omega)
  have B6 := nxt B5 hb6 (by omega)
  clear hb6 B5
  obtain ⟨rfl, hpi⟩ := Prod.mk.inj (hr.out.trans hri.out.symm)
  obtain ⟨rfl, rfl⟩ := Prod.mk.inj hpi
  clear hri
  go_wp2_with fail
  refine (eqBel_any _ _ _ _ _ _ _ _ Gi.sl G.sl (by omega)).mono ?_
  rintro e w7 ⟨rfl, hb7⟩
  have hz7 := hb7.size
  replace G := G.below hb7 (by omega)
  replace K := K.below hb7 (by omega)
  replace X0 := X0.below hb7 (by omega)
  replace X1 := X1.below hb7 (by omega)
  replace Gi := Gi.below hb7 (by omega)
  replace Ki := Ki.below hb7 (by omega)
  have B7 := nxt B6 hb7 (by omega)
  clear hb7 B6
  go_wp2_with fail
  refine (eqBel_any _ _ _ _ _ _ _ _ Ki.sl K.sl (by omega)).mono ?_
  rintro e w8 ⟨rfl, hb8⟩
  have hz8 := hb8.size
  replace G := G.below hb8 (by omega)
  replace K := K.below hb8 (by omega)
  replace X0 := X0.below hb8 (by omega)
  replace X1 := X1.below hb8 (by omega)
  replace Gi := Gi.below hb8 (by omega)
  replace Ki := Ki.below hb8 (by omega)
  have B8 := nxt B7 hb8 (by omega)
  clear hb8 B7
  go_wp2_with fail
  refine (toInts_any _ _ _ _ w.heap.size (HS0.out.below B8 (Nat.le_refl _)) (by omega) (by omega)).mono ?_
  rintro e w9 ⟨AT0, cT0, rfl, T0, hb9⟩
  have hz9 := hb9.size
  replace G := G.below hb9 (by omega)
  replace K := K.below hb9 (by omega)
  replace X0 := X0.below hb9 (by omega)
  replace X1 := X1.below hb9 (by omega)
  replace Gi := Gi.below hb9 (by omega)
  replace Ki := Ki.below hb9 (by omega)
  have B9 := nxt B8 hb9 (by omega)
  clear hb9 B8
  go_wp2_with fail
  refine (eqBel_any _ _ _ _ _ _ _ _ X0.sl T0.sl (by omega)).mono ?_
  rintro e w10 ⟨rfl, hb10⟩
  have hz10 := hb10.size
  replace G := G.below hb10 (by omega)
  replace K := K.below hb10 (by omega)
  replace X0 := X0.below hb10 (by omega)
  replace X1 := X1.below hb10 (by omega)
  replace Gi := Gi.below hb10 (by omega)
  replace Ki := Ki.below hb10 (by omega)
  replace T0 := T0.below hb10 (by omega)
  have B10 := nxt B9 hb10 (by omega)
  clear hb10 B9
  clear T0
  go_wp2_with fail
  refine (toInts_any _ _ _ _ w.heap.size (HS1.out.below B10 (Nat.le_refl _)) (by omega) (by omega)).mono ?_
  rintro e w11 ⟨AT1, cT1, rfl, T1, hb11⟩
  have hz11 := hb11.size
  replace G := G.below hb11 (by omega)
  replace K := K.below hb11 (by omega)
  replace X0 := X0.below hb11 (by omega)
  replace X1 := X1.below hb11 (by omega)
  replace Gi := Gi.below hb11 (by omega)
  replace Ki := Ki.below hb11 (by omega)
  have B11 := nxt B10 hb11 (by omega)
  clear hb11 B10
  go_wp2_with fail
  refine (eqBel_any _ _ _ _ _ _ _ _ X1.sl T1.sl (by omega)).mono ?_
  rintro e w12 ⟨rfl, hb12⟩
  have hz12 := hb12.size
  replace G := G.below hb12 (by omega)
  replace K := K.below hb12 (by omega)
  replace X0 := X0.below hb12 (by omega)
  replace X1 := X1.below hb12 (by omega)
  replace Gi := Gi.below hb12 (by omega)
  replace Ki := Ki.below hb12 (by omega)
  replace T1 := T1.below hb12 (by omega)
  have B12 := nxt B11 hb12 (by omega)
  clear hb12 B11
  clear T1
  go_wp2_with fail
  refine (mark_any _ _ _ _ _ _ _ X0 (by omega) (by omega) (by omega)).mono ?_
  rintro e w13 ⟨rfl, zs13, hzl13, hmk13, M13, hon13⟩
  have hz13 := hon13.size
  have HZL13 := Lib.hid hzl13
  have HMK13 := Lib.hid hmk13
  clear hzl13 hmk13 X0
  replace G := G.only hon13 (by omega)
  replace K := K.only hon13 (by omega)
  replace X1 := X1.only hon13 (by omega)
  replace Gi := Gi.only hon13 (by omega)
  replace Ki := Ki.only hon13 (by omega)
  have B13 := B12.trans (hon13.below (B := w.heap.size) (by omega) (by omega))
  clear hon13 B12
  go_wp2_with fail
  refine (mark_any _ _ _ _ _ _ _ X1 (by omega) (by omega) (by omega)).mono ?_
  rintro e w14 ⟨rfl, zs14, hzl14, hmk14, M14, hon14⟩
  have hz14 := hon14.size
  have HZL14 := Lib.hid hzl14
  have HMK14 := Lib.hid hmk14
  clear hzl14 hmk14 X1
  replace G := G.only hon14 (by omega)
  replace K := K.only hon14 (by omega)
  replace Gi := Gi.only hon14 (by omega)
  replace Ki := Ki.only hon14 (by omega)
  have B14 := B13.trans (hon14.below (B := w.heap.size) (by omega) (by omega))
  clear hon14 B13
  go_wp2_with fail
  refine (eqBel_any _ _ _ _ _ _ _ _ Gi.sl G.sl (by omega)).mono ?_
  rintro e w15 ⟨rfl, hb15⟩
  have hz15 := hb15.size
  replace G := G.below hb15 (by omega)
  replace K := K.below hb15 (by omega)
  replace Gi := Gi.below hb15 (by omega)
  replace Ki := Ki.below hb15 (by omega)
  have B15 := nxt B14 hb15 (by omega)
  clear hb15 B14
  go_wp2_with fail
  refine (eqBel_any _ _ _ _ _ _ _ _ Ki.sl K.sl (by omega)).mono ?_
  rintro e w16 ⟨rfl, hb16⟩
  have hz16 := hb16.size
  replace G := G.below hb16 (by omega)
  replace K := K.below hb16 (by omega)
  replace Gi := Gi.below hb16 (by omega)
  replace Ki := Ki.below hb16 (by omega)
  have B16 := nxt B15 hb16 (by omega)
  clear hb16 B15
  go_wp2_with fail
  refine (mark_any _ _ _ _ _ _ _ Gi (by omega) (by omega) (by omega)).mono ?_
  rintro e w17 ⟨rfl, zs17, hzl17, hmk17, M17, hon17⟩
  have hz17 := hon17.size
  have HZL17 := Lib.hid hzl17
  have HMK17 := Lib.hid hmk17
  clear hzl17 hmk17 Gi
  replace G := G.only hon17 (by omega)
  replace K := K.only hon17 (by omega)
  replace Ki := Ki.only hon17 (by omega)
  have B17 := B16.trans (hon17.below (B := w.heap.size) (by omega) (by omega))
  clear hon17 B16
  go_wp2_with fail
  refine (mark_any _ _ _ _ _ _ _ Ki (by omega) (by omega) (by omega)).mono ?_
  rintro e w18 ⟨rfl, zs18, hzl18, hmk18, M18, hon18⟩
  have hz18 := hon18.size
  have HZL18 := Lib.hid hzl18
  have HMK18 := Lib.hid hmk18
  clear hzl18 hmk18 Ki
  replace G := G.only hon18 (by omega)
  replace K := K.only hon18 (by omega)
  replace M17 := M17.only hon18 (by omega)
  have B18 := B17.trans (hon18.below (B := w.heap.size) (by omega) (by omega))
  clear hon18 B17
  go_wp2_with fail
  refine (heldN_any _ _ _ _ HZL17.out _ _ _ M17.sl HMK17.out (by omega) (by omega) (by omega)).mono ?_
  rintro e wh ⟨rfl, rfl⟩
  go_wp2_with fail
  refine (heldN_any _ _ _ _ HZL18.out _ _ _ M18.sl HMK18.out (by omega) (by omega) (by omega)).mono ?_
  rintro e wh ⟨rfl, rfl⟩
  go_wp2_with fail
  refine (toInts_any _ _ _ _ w.heap.size (HS0.out.below B18 (Nat.le_refl _)) (by omega) (by omega)).mono ?_
  rintro e w19 ⟨AY0, cY0, rfl, Y0, hb19⟩
  have hz19 := hb19.size
  replace G := G.below hb19 (by omega)
  replace K := K.below hb19 (by omega)
  replace M17 := M17.below hb19 (by omega)
  replace M18 := M18.below hb19 (by omega)
  have B19 := nxt B18 hb19 (by omega)
  clear hb19 B18
  go_wp2_with fail
  refine (toInts_any _ _ _ _ w.heap.size (HS1.out.below B19 (Nat.le_refl _)) (by omega) (by omega)).mono ?_
  rintro e w20 ⟨AY1, cY1, rfl, Y1, hb20⟩
  have hz20 := hb20.size
  replace G := G.below hb20 (by omega)
  replace K := K.below hb20 (by omega)
  replace M17 := M17.below hb20 (by omega)
  replace M18 := M18.below hb20 (by omega)
  replace Y0 := Y0.below hb20 (by omega)
  have B20 := nxt B19 hb20 (by omega)
  clear hb20 B19
  go_wp2_with fail
  refine (implDivPoly_any _ _ _ _ _ _ _ (Y0.arg (by omega) l0 HI0.out) (Y1.arg (by omega) l1 HI1.out)).mono ?_
  rintro e w21 ⟨ysj, zsj, codej, Aj, cj, Dj, dj, lja, hja, ljb, hjb, rfl, HRj, lenj, lezj, Gj, Kj, qj1, qj2, qj3, qj4, qj5, hb21⟩
  have hrj := Lib.hid HRj
  clear HRj
  have hz21 := hb21.size
  replace G := G.below hb21 (by omega)
  replace K := K.below hb21 (by omega)
  replace M17 := M17.below hb21 (by omega)
  replace M18 := M18.below hb21 (by omega)
  replace Y0 := Y0.below hb21 (by omega)
  replace Y1 := Y1.below hb21 (by omega)
  have B21 := nxt B20 hb21 (by omega)
  clear hb21 B20
  obtain ⟨rfl, hpj⟩ := Prod.mk.inj (hr.out.trans hrj.out.symm)
  obtain ⟨rfl, rfl⟩ := Prod.mk.inj hpj
  clear hrj
  clear Y0 Y1
  go_wp2_with fail
  refine (eqBel_any _ _ _ _ _ _ _ _ Gj.sl G.sl (by omega)).mono ?_
  rintro e w22 ⟨rfl, hb22⟩
  have hz22 := hb22.size
  replace G := G.below hb22 (by omega)
  replace K := K.below hb22 (by omega)
  replace M17 := M17.below hb22 (by omega)
  replace M18 := M18.below hb22 (by omega)
  replace Gj := Gj.below hb22 (by omega)
  replace Kj := Kj.below hb22 (by omega)
  have B22 := nxt B21 hb22 (by omega)
  clear hb22 B21
  go_wp2_with fail
  refine (eqBel_any _ _ _ _ _ _ _ _ Kj.sl K.sl (by omega)).mono ?_
  rintro e w23 ⟨rfl, hb23⟩
  have hz23 := hb23.size
  replace G := G.below hb23 (by omega)
  replace K := K.below hb23 (by omega)
  replace M17 := M17.below hb23 (by omega)
  replace M18 := M18.below hb23 (by omega)
  replace Gj := Gj.below hb23 (by omega)
  replace Kj := Kj.below hb23 (by omega)
  have B23 := nxt B22 hb23 (by omega)
  clear hb23 B22
  go_wp2_with fail
  refine (heldN_any _ _ _ _ HZL17.out _ _ _ M17.sl HMK17.out (by omega) (by omega) (by omega)).mono ?_
  rintro e wh ⟨rfl, rfl⟩
  go_wp2_with fail
  refine (heldN_any _ _ _ _ HZL18.out _ _ _ M18.sl HMK18.out (by omega) (by omega) (by omega)).mono ?_
  rintro e wh ⟨rfl, rfl⟩
  go_wp2
  go_ret
  exact ⟨rfl, B23⟩

end Go.Proofs.Ytppfcmhbbjgkfaa
