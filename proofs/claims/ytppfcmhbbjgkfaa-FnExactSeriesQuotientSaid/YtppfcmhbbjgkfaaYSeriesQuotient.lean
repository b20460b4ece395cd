/- The law SeriesQuotient, printed by laws.py. -/
import Derived.Test.YtppfcmhbbjgkfaaVq
namespace Go.Proofs.Ytppfcmhbbjgkfaa
open Go.RowKit
set_option linter.unusedVariables false
set_option linter.unusedSimpArgs false

set_option maxHeartbeats 4000000 in
theorem walk_FnExactSeriesQuotient (A0 : Option Addr) (c0 : Nat) (xs0 : List Int) (A1 : Option Addr) (c1 : Nat) (xs1 : List Int) (n2 : Int) (w : World) (h0 : SlIn w w.heap.size A0 c0 xs0) (h1 : SlIn w w.heap.size A1 c1 xs1) (h2 : I64 n2) : Calls Try.prog 12 #[.slice A0 xs0.length c0, .slice A1 xs1.length c1, .int .i64 n2] w fun e w' => e = .returned (.bool true) ∧ Below w.heap.size w w' := by
  obtain ⟨hs0, hi0, -⟩ := h0
  have HS0 := Lib.hid hs0
  have HI0 := Lib.hid hi0
  clear hs0 hi0
  obtain ⟨hs1, hi1, -⟩ := h1
  have HS1 := Lib.hid hs1
  have HI1 := Lib.hid hi1
  clear hs1 hi1
  by_cases l0 : 1048576 < xs0.length
  · clear HS0 HI0 HS1 HI1
    generalize xs0.length = m0 at *
    generalize xs1.length = m1 at *
    go_enter Try.func12, Try.ntmps12
    go_wp2
    go_ret
    exact ⟨rfl, Below.refl _ _⟩
  by_cases l1 : 1048576 < xs1.length
  · clear HS0 HI0 HS1 HI1
    generalize xs0.length = m0 at *
    generalize xs1.length = m1 at *
    go_enter Try.func12, Try.ntmps12
    go_wp2
    go_ret
    exact ⟨rfl, Below.refl _ _⟩
  go_enter Try.func12, Try.ntmps12
  have B0 := Below.refl w.heap.size w
  go_wp2_with fail
  refine (toInts_any _ _ _ _ w.heap.size (HS0.out.below B0 (Nat.le_refl _)) (by omega) (by omega)).mono ?_
  rintro e w1 ⟨AS0, cS0, rfl, S0, hb1⟩
  have hz1 := hb1.size
  have B1 := nxt B0 hb1 (by omega)
  clear hb1 B0
  go_wp2_with fail
  refine (toInts_any _ _ _ _ w.heap.size (HS1.out.below B1 (Nat.le_refl _)) (by omega) (by omega)).mono ?_
  rintro e w2 ⟨AS1, cS1, rfl, S1, hb2⟩
  have hz2 := hb2.size
  replace S0 := S0.below hb2 (by omega)
  have B2 := nxt B1 hb2 (by omega)
  clear hb2 B1
  go_wp2_with fail
  refine (specSeriesQuotient_any _ _ _ _ _ _ _ _ (S0.arg (by omega) l0 HI0.out) (S1.arg (by omega) l1 HI1.out) h2).mono ?_
  rintro e w3 ⟨ys, code, A, c, rfl, HR, len, G, hb3⟩
  have hr := Lib.hid HR
  clear HR
  have hz3 := hb3.size
  replace S0 := S0.below hb3 (by omega)
  replace S1 := S1.below hb3 (by omega)
  have B3 := nxt B2 hb3 (by omega)
  clear hb3 B2
  clear S0 S1
  go_wp2_with fail
  refine (toInts_any _ _ _ _ w.heap.size (HS0.out.below B3 (Nat.le_refl _)) (by omega) (by omega)).mono ?_
  rintro e w4 ⟨AX0, cX0, rfl, X0, hb4⟩
  have hz4 := hb4.size
  replace G := G.below hb4 (by omega)
  have B4 := nxt B3 hb4 (by omega)
  clear hb4 B3
  go_wp2_with fail
  refine (toInts_any _ _ _ _ w.heap.size (HS1.out.below B4 (Nat.le_refl _)) (by omega) (by omega)).mono ?_
  rintro e w5 ⟨AX1, cX1, rfl, X1, hb5⟩
  have hz5 := hb5.size
  replace G := G.below hb5 (by omega)
  replace X0 := X0.below hb5 (by omega)
  have B5 := nxt B4 hb5 (by omega)
  clear hb5 B4
  go_wp2_with fail
  refine (implSeriesQuotient_any _ _ _ _ _ _ _ _ (X0.arg (by omega) l0 HI0.out) (X1.arg (by omega) l1 HI1.out) h2).mono ?_
  rintro e w6 ⟨ysi, codei, Ai, ci, rfl, HRi, leni, Gi, hb6⟩
  have hri := Lib.hid HRi
  clear HRi
  have hz6 := hb6.size
  replace G := G.below hb6 (by omega)
  replace X0 := X0.below hb6 (by omega)
  replace X1 := X1.below hb6 (by omega)
  have B6 := nxt B5 hb6 (by omega)
  clear hb6 B5
  obtain ⟨rfl, rfl⟩ := Prod.mk.inj (hr.out.trans hri.out.symm)
  clear hri
  go_wp2_with fail
  refine (eqBel_any _ _ _ _ _ _ _ _ Gi.sl G.sl (by omega)).mono ?_
  rintro e w7 ⟨rfl, hb7⟩
  have hz7 := hb7.size
  replace G := G.below hb7 (by omega)
  replace X0 := X0.below hb7 (by omega)
  replace X1 := X1.below hb7 (by omega)
  replace Gi := Gi.below hb7 (by omega)
  have B7 := nxt B6 hb7 (by omega)
  clear hb7 B6
  go_wp2_with fail
  refine (toInts_any _ _ _ _ w.heap.size (HS0.out.below B7 (Nat.le_refl _)) (by omega) (by omega)).mono ?_
  rintro e w8 ⟨AT0, cT0, rfl, T0, hb8⟩
  have hz8 := hb8.size
  replace G := G.below hb8 (by omega)
  replace X0 := X0.below hb8 (by omega)
  replace X1 := X1.below hb8 (by omega)
  replace Gi := Gi.below hb8 (by omega)
  have B8 := nxt B7 hb8 (by omega)
  clear hb8 B7
  go_wp2_with fail
  refine (eqBel_any _ _ _ _ _ _ _ _ X0.sl T0.sl (by omega)).mono ?_
  rintro e w9 ⟨rfl, hb9⟩
  have hz9 := hb9.size
  replace G := G.below hb9 (by omega)
  replace X0 := X0.below hb9 (by omega)
  replace X1 := X1.below hb9 (by omega)
  replace Gi := Gi.below hb9 (by omega)
  replace T0 := T0.below hb9 (by omega)
  have B9 := nxt B8 hb9 (by omega)
  clear hb9 B8
  clear T0
  go_wp2_with fail
  refine (toInts_any _ _ _ _ w.heap.size (HS1.out.below B9 (Nat.le_refl _)) (by omega) (by omega)).mono ?_
  rintro e w10 ⟨AT1, cT1, rfl, T1, hb10⟩
  have hz10 := hb10.size
  replace G := G.below hb10 (by omega)
  replace X0 := X0.below hb10 (by omega)
  replace X1 := X1.below hb10 (by omega)
  replace Gi := Gi.below hb10 (by omega)
  have B10 := nxt B9 hb10 (by omega)
  clear hb10 B9
  go_wp2_with fail
  refine (eqBel_any _ _ _ _ _ _ _ _ X1.sl T1.sl (by omega)).mono ?_
  rintro e w11 ⟨rfl, hb11⟩
  have hz11 := hb11.size
  replace G := G.below hb11 (by omega)
  replace X0 := X0.below hb11 (by omega)
  replace X1 := X1.below hb11 (by omega)
  replace Gi := Gi.below hb11 (by omega)
  replace T1 := T1.below hb11 (by omega)
  have B11 := nxt B10 hb11 (by omega)
  clear hb11 B10
  clear T1
  go_wp2_with fail
  refine (mark_any _ _ _ _ _ _ _ X0 (by omega) (by omega) (by omega)).mono ?_
  rintro e w12 ⟨rfl, zs12, hzl12, hmk12, M12, hon12⟩
  have hz12 := hon12.size
  have HZL12 := Lib.hid hzl12
  have HMK12 := Lib.hid hmk12
  clear hzl12 hmk12 X0
  replace G := G.only hon12 (by omega)
  replace X1 := X1.only hon12 (by omega)
  replace Gi := Gi.only hon12 (by omega)
  have B12 := B11.trans (hon12.below (B := w.heap.size) (by omega) (by omega))
  clear hon12 B11
  go_wp2_with fail
  refine (mark_any _ _ _ _ _ _ _ X1 (by omega) (by omega) (by omega)).mono ?_
  rintro e w13 ⟨rfl, zs13, hzl13, hmk13, M13, hon13⟩
  have hz13 := hon13.size
  have HZL13 := Lib.hid hzl13
  have HMK13 := Lib.hid hmk13
  clear hzl13 hmk13 X1
  replace G := G.only hon13 (by omega)
  replace Gi := Gi.only hon13 (by omega)
  have B13 := B12.trans (hon13.below (B := w.heap.size) (by omega) (by omega))
  clear hon13 B12
  go_wp2_with fail
  refine (eqBel_any _ _ _ _ _ _ _ _ Gi.sl G.sl (by omega)).mono ?_
  rintro e w14 ⟨rfl, hb14⟩
  have hz14 := hb14.size
  replace G := G.below hb14 (by omega)
  replace Gi := Gi.below hb14 (by omega)
  have B14 := nxt B13 hb14 (by omega)
  clear hb14 B13
  go_wp2_with fail
  refine (mark_any _ _ _ _ _ _ _ Gi (by omega) (by omega) (by omega)).mono ?_
  rintro e w15 ⟨rfl, zs15, hzl15, hmk15, M15, hon15⟩
  have hz15 := hon15.size
  have HZL15 := Lib.hid hzl15
  have HMK15 := Lib.hid hmk15
  clear hzl15 hmk15 Gi
  replace G := G.only hon15 (by omega)
  have B15 := B14.trans (hon15.below (B := w.heap.size) (by omega) (by omega))
  clear hon15 B14
  go_wp2_with fail
  refine (heldN_any _ _ _ _ HZL15.out _ _ _ M15.sl HMK15.out (by omega) (by omega) (by omega)).mono ?_
  rintro e wh ⟨rfl, rfl⟩
  go_wp2_with fail
  refine (toInts_any _ _ _ _ w.heap.size (HS0.out.below B15 (Nat.le_refl _)) (by omega) (by omega)).mono ?_
  rintro e w16 ⟨AY0, cY0, rfl, Y0, hb16⟩
  have hz16 := hb16.size
  replace G := G.below hb16 (by omega)
  replace M15 := M15.below hb16 (by omega)
  have B16 := nxt B15 hb16 (by omega)
  clear hb16 B15
  go_wp2_with fail
  refine (toInts_any _ _ _ _ w.heap.size (HS1.out.below B16 (Nat.le_refl _)) (by omega) (by omega)).mono ?_
  rintro e w17 ⟨AY1, cY1, rfl, Y1, hb17⟩
  have hz17 := hb17.size
  replace G := G.below hb17 (by omega)
  replace M15 := M15.below hb17 (by omega)
  replace Y0 := Y0.below hb17 (by omega)
  have B17 := nxt B16 hb17 (by omega)
  clear hb17 B16
  go_wp2_with fail
  refine (implSeriesQuotient_any _ _ _ _ _ _ _ _ (Y0.arg (by omega) l0 HI0.out) (Y1.arg (by omega) l1 HI1.out) h2).mono ?_
  rintro e w18 ⟨ysj, codej, Aj, cj, rfl, HRj, lenj, Gj, hb18⟩
  have hrj := Lib.hid HRj
  clear HRj
  have hz18 := hb18.size
  replace G := G.below hb18 (by omega)
  replace M15 := M15.below hb18 (by omega)
  replace Y0 := Y0.below hb18 (by omega)
  replace Y1 := Y1.below hb18 (by omega)
  have B18 := nxt B17 hb18 (by omega)
  clear hb18 B17
  obtain ⟨rfl, rfl⟩ := Prod.mk.inj (hr.out.trans hrj.out.symm)
  clear hrj
  clear Y0 Y1
  go_wp2_with fail
  refine (eqBel_any _ _ _ _ _ _ _ _ Gj.sl G.sl (by omega)).mono ?_
  rintro e w19 ⟨rfl, hb19⟩
  have hz19 := hb19.size
  replace G := G.below hb19 (by omega)
  replace M15 := M15.below hb19 (by omega)
  replace Gj := Gj.below hb19 (by omega)
  have B19 := nxt B18 hb19 (by omega)
  clear hb19 B18
  go_wp2_with fail
  refine (heldN_any _ _ _ _ HZL15.out _ _ _ M15.sl HMK15.out (by omega) (by omega) (by omega)).mono ?_
  rintro e wh ⟨rfl, rfl⟩
  go_wp2
  go_ret
  exact ⟨rfl, B19⟩

end Go.Proofs.Ytppfcmhbbjgkfaa
