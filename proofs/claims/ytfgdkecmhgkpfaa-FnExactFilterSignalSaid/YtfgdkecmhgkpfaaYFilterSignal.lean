/- The law FilterSignal, printed by laws3.py. -/
import Derived.Test.YtfgdkecmhgkpfaaTf
import Derived.Deep.RegionHeld3
import Derived.Deep.DeepCutAuto
namespace Go.Proofs.Ytfgdkecmhgkpfaa
open Go.RowKit
set_option linter.unusedVariables false
set_option linter.unusedSimpArgs false

set_option maxHeartbeats 8000000 in
theorem walk_FnExactFilterSignal (A0 : Option Addr) (c0 : Nat) (xs0 : List Int) (D0 : Option Addr) (d0 : Nat) (ys0 : List Int) (A1 : Option Addr) (c1 : Nat) (xs1 : List Int) (w : World) (h0 : SlIn w w.heap.size A0 c0 xs0) (k0 : SlIn w w.heap.size D0 d0 ys0) (h1 : SlIn w w.heap.size A1 c1 xs1) : Calls Try.prog 5 #[.agg #[.slice A0 xs0.length c0, .slice D0 ys0.length d0], .slice A1 xs1.length c1] w fun e w' => e = .returned (.bool true) ∧ Below w.heap.size w w' := by
  obtain ⟨hs1, hi1, hc1, hm1⟩ := h1
  obtain ⟨hs0, hi0, hc0, hm0⟩ := h0
  obtain ⟨ks0, ki0, kc0, km0⟩ := k0
  have HS1 := Lib.hid hs1
  have HI1 := Lib.hid hi1
  clear hs1 hi1 hc1
  have HS0 := Lib.hid hs0
  have HI0 := Lib.hid hi0
  clear hs0 hi0 hc0
  have KS0 := Lib.hid ks0
  have KI0 := Lib.hid ki0
  clear ks0 ki0 kc0
  by_cases l1 : 1048576 < xs1.length
  · clear HS1 HI1 HS0 HI0 KS0 KI0
    go_enter Try.func5, Try.ntmps5
    go_wp2
    go_ret
    exact ⟨rfl, by (repeat (first | exact Below.refl _ _ | assumption | refine Below.setCell ?_ (by (try simp) <;> omega) _ | refine Below.alloc ?_ (by (try simp) <;> omega) _ | refine below_drewN_ ?_ | refine Below.drew ?_))⟩
  have hb0 : Below w.heap.size w (w.alloc (.cells #[.slice A0 xs0.length c0, .slice D0 ys0.length d0] 24)) := by (repeat (first | exact Below.refl _ _ | assumption | refine Below.setCell ?_ (by (try simp) <;> omega) _ | refine Below.alloc ?_ (by (try simp) <;> omega) _ | refine below_drewN_ ?_ | refine Below.drew ?_))
  have hz0 : w.heap.size + 1 ≤ (w.alloc (.cells #[.slice A0 xs0.length c0, .slice D0 ys0.length d0] 24)).heap.size := by simp
  have P0 := Lib.hid (show Bx (w.alloc (.cells #[.slice A0 xs0.length c0, .slice D0 ys0.length d0] 24)) (w.heap.size) A0 xs0.length c0 D0 ys0.length d0 by constructor <;> go_simp)
  have B0 := hb0
  clear hb0
  go_enter Try.func5, Try.ntmps5
  obtain ⟨e0, e1⟩ := P0.out
  go_wp2_with fail
  clear e0 e1
  generalize (w.alloc (.cells #[.slice A0 xs0.length c0, .slice D0 ys0.length d0] 24)) = w0 at *
  refine (szTransfer_any _ _ _ _ _ _ _ _ (by omega) (by omega) hm0 km0).mono ?_
  rintro e w1 ⟨rfl, hb1⟩
  have hz1 := hb1.size
  replace P0 := Lib.hid (P0.out.below hb1 (by omega))
  have B1 := nxt B0 hb1 (by omega)
  clear hb1 B0
  by_cases z0 : (xs0.length : Int) + (ys0.length : Int) ≤ 1048576
  case neg =>
    rw [szT_no z0]
    go_wp2
    go_ret
    exact ⟨rfl, B1⟩
  rw [szT_ok z0]
  have hleft : ¬ 1048576 - (xs0.length : Int) - (ys0.length : Int) < 0 := by omega
  obtain ⟨e0, e1⟩ := P0.out
  go_wp2_with fail
  clear e0 e1
  refine (toTransfer_any _ _ _ _ _ _ _ w.heap.size (HS0.out.below B1 (Nat.le_refl _)) (KS0.out.below B1 (Nat.le_refl _)) (by omega) (by omega) (by omega)).mono ?_
  rintro e w2 ⟨AS0, cS0, DS0, dS0, lS0a, hS0a, lS0b, hS0b, rfl, S0, S0b, qS01, qS02, qS03, qS04, qS05, hb2⟩
  have hz2 := hb2.size
  replace P0 := Lib.hid (P0.out.below hb2 (by omega))
  have B2 := nxt B1 hb2 (by omega)
  clear hb2 B1
  obtain ⟨e0, e1⟩ := P0.out
  go_wp2_with fail
  clear e0 e1
  refine (toInts_any _ _ _ _ w.heap.size (HS1.out.below B2 (Nat.le_refl _)) (by omega) (by omega)).mono ?_
  rintro e w3 ⟨AS1, cS1, rfl, S1, hb3⟩
  have hz3 := hb3.size
  replace S0 := S0.below hb3 (by omega)
  replace S0b := S0b.below hb3 (by omega)
  replace P0 := Lib.hid (P0.out.below hb3 (by omega))
  have B3 := nxt B2 hb3 (by omega)
  clear hb3 B2
  obtain ⟨e0, e1⟩ := P0.out
  go_wp2_with fail
  clear e0 e1
  refine (specFilterSignal_any _ _ _ _ _ _ _ _ _ _ (S0.arg (by omega) (by omega) HI0.out) (S0b.arg (by omega) (by omega) KI0.out) (S1.arg (by omega) (by omega) HI1.out)).mono ?_
  rintro e w4 ⟨ys, code, A, c, rfl, HR, len, G, hb4⟩
  have hr := Lib.hid HR
  clear HR
  have hz4 := hb4.size
  replace S0 := S0.below hb4 (by omega)
  replace S0b := S0b.below hb4 (by omega)
  replace S1 := S1.below hb4 (by omega)
  replace P0 := Lib.hid (P0.out.below hb4 (by omega))
  have B4 := nxt B3 hb4 (by omega)
  clear hb4 B3
  clear S0 S0b S1
  obtain ⟨e0, e1⟩ := P0.out
  go_wp2_with fail
  clear e0 e1
  refine (toTransfer_any _ _ _ _ _ _ _ w.heap.size (HS0.out.below B4 (Nat.le_refl _)) (KS0.out.below B4 (Nat.le_refl _)) (by omega) (by omega) (by omega)).mono ?_
  rintro e w5 ⟨AX0, cX0, DX0, dX0, lX0a, hX0a, lX0b, hX0b, rfl, X0, X0b, qX01, qX02, qX03, qX04, qX05, hb5⟩
  have hz5 := hb5.size
  replace G := G.below hb5 (by omega)
  replace P0 := Lib.hid (P0.out.below hb5 (by omega))
  have B5 := nxt B4 hb5 (by omega)
  clear hb5 B4
  have XX0 := Lib.hid (Bx.new w5 AX0 xs0.length cX0 DX0 ys0.length dX0 27)
  have hb6 : Below w5.heap.size w5 (w5.alloc (.cells #[.slice AX0 xs0.length cX0, .slice DX0 ys0.length dX0] 27)) := (Below.refl _ _).alloc (Nat.le_refl _) _
  have hy6 : w5.heap.size < (w5.alloc (.cells #[.slice AX0 xs0.length cX0, .slice DX0 ys0.length dX0] 27)).heap.size := by simp
  have hz6 := hb6.size
  replace G := G.below hb6 (by omega)
  replace X0 := X0.below hb6 (by omega)
  replace X0b := X0b.below hb6 (by omega)
  replace P0 := Lib.hid (P0.out.below hb6 (by omega))
  have B6 := nxt B5 hb6 (by omega)
  clear hb6 B5
  obtain ⟨e0, e1⟩ := P0.out
  obtain ⟨e2, e3⟩ := XX0.out
  go_wp2_with fail
  clear e0 e1 e2 e3
  generalize (w5.alloc (.cells #[.slice AX0 xs0.length cX0, .slice DX0 ys0.length dX0] 27)) = w6 at *
  refine (toInts_any _ _ _ _ w.heap.size (HS1.out.below B6 (Nat.le_refl _)) (by omega) (by omega)).mono ?_
  rintro e w7 ⟨AX1, cX1, rfl, X1, hb7⟩
  have hz7 := hb7.size
  replace G := G.below hb7 (by omega)
  replace X0 := X0.below hb7 (by omega)
  replace X0b := X0b.below hb7 (by omega)
  replace P0 := Lib.hid (P0.out.below hb7 (by omega))
  replace XX0 := Lib.hid (XX0.out.below hb7 (by omega))
  have B7 := nxt B6 hb7 (by omega)
  clear hb7 B6
  obtain ⟨e0, e1⟩ := P0.out
  obtain ⟨e2, e3⟩ := XX0.out
  go_wp2_with fail
  clear e0 e1 e2 e3
  refine (implFilterSignal_any _ _ _ _ _ _ _ _ _ _ (X0.arg (by omega) (by omega) HI0.out) (X0b.arg (by omega) (by omega) KI0.out) (X1.arg (by omega) (by omega) HI1.out)).mono ?_
  rintro e w8 ⟨ysi, codei, Ai, ci, rfl, HRi, leni, Gi, hb8⟩
  have hri := Lib.hid HRi
  clear HRi
  have hz8 := hb8.size
  replace G := G.below hb8 (by omega)
  replace X0 := X0.below hb8 (by omega)
  replace X0b := X0b.below hb8 (by omega)
  replace X1 := X1.below hb8 (by omega)
  replace P0 := Lib.hid (P0.out.below hb8 (by omega))
  replace XX0 := Lib.hid (XX0.out.below hb8 (by omega))
  have B8 := nxt B7 hb8 (by omega)
  clear hb8 B7
  obtain ⟨rfl, rfl⟩ := Prod.mk.inj (hr.out.trans hri.out.symm)
  clear hri
  obtain ⟨e0, e1⟩ := P0.out
  obtain ⟨e2, e3⟩ := XX0.out
  go_wp2_with fail
  clear e0 e1 e2 e3
  refine (eqBel_any _ _ _ _ _ _ _ _ Gi.sl G.sl (by omega)).mono ?_
  rintro e w9 ⟨rfl, hb9⟩
  have hz9 := hb9.size
  replace G := G.below hb9 (by omega)
  replace X0 := X0.below hb9 (by omega)
  replace X0b := X0b.below hb9 (by omega)
  replace X1 := X1.below hb9 (by omega)
  replace Gi := Gi.below hb9 (by omega)
  replace P0 := Lib.hid (P0.out.below hb9 (by omega))
  replace XX0 := Lib.hid (XX0.out.below hb9 (by omega))
  have B9 := nxt B8 hb9 (by omega)
  clear hb9 B8
  obtain ⟨e0, e1⟩ := P0.out
  obtain ⟨e2, e3⟩ := XX0.out
  go_wp2_with fail
  clear e0 e1 e2 e3
  have TO0 : Hid (∀ w', Below w9.heap.size w9 w' ∧ w'.cell? ⟨w5.heap.size, 0, none⟩ = some (.slice AX0 xs0.length cX0) ∧ w'.cell? ⟨w5.heap.size, 1, none⟩ = some (.slice DX0 ys0.length dX0) ∧ w'.cell? ⟨w.heap.size, 0, none⟩ = some (.slice A0 xs0.length c0) ∧ w'.cell? ⟨w.heap.size, 1, none⟩ = some (.slice D0 ys0.length d0) → Calls Try.prog 11 #[.agg #[.slice A0 xs0.length c0, .slice D0 ys0.length d0]] w' (FreshT xs0 ys0 w')) :=
    fun w' hx => toTransfer_any _ _ _ _ _ _ w' w.heap.size (HS0.out.below (nxt B9 hx.1 (by omega)) (Nat.le_refl _)) (KS0.out.below (nxt B9 hx.1 (by omega)) (Nat.le_refl _)) (by have := hx.1.size; omega) (by omega) (by omega)
  go_region_held3 (fun w' => Below w9.heap.size w9 w' ∧ w'.cell? ⟨w5.heap.size, 0, none⟩ = some (.slice AX0 xs0.length cX0) ∧ w'.cell? ⟨w5.heap.size, 1, none⟩ = some (.slice DX0 ys0.length dX0) ∧ w'.cell? ⟨w.heap.size, 0, none⟩ = some (.slice A0 xs0.length c0) ∧ w'.cell? ⟨w.heap.size, 1, none⟩ = some (.slice D0 ys0.length d0))
    ((first | assumption | (refine Hid.out ?_; assumption) | (exact bx2_keep XX0 P0 (Below.drew (Below.refl _ _)))))
    ((first | (go_at_call 11; refine (TO0.out _ (by assumption)).mono ?_; rintro e wt10 ⟨AT0, cT0, DT0, dT0, lT0a, hT0a, lT0b, hT0b, rfl, T0, T0b, qT01, qT02, qT03, qT04, qT05, hbk⟩; have hS10 := Lib.hid (bx2_call XX0 P0 (by assumption) hbk); have hW10 := hS10.out.1; have hzt10 := hW10.size; clear hbk) | (go_at_call 13; refine (eqTransfer_any _ _ _ _ _ _ _ _ _ _ _ _ _ _ _ (X0.below hW10 (by omega)).sl (X0b.below hW10 (by omega)).sl T0.sl T0b.sl (by omega) (by omega) (by omega) (by omega) (by omega) (by omega)).mono ?_; rintro e w10 ⟨rfl, hbe10⟩; have hSe10 := Lib.hid (bx2_call XX0 P0 hS10.out hbe10))))
  have hb10 := nxt hW10 hbe10 (by omega)
  clear T0 T0b hS10 hSe10 hW10 hbe10 TO0
  have hz10 := hb10.size
  replace G := G.below hb10 (by omega)
  replace X0 := X0.below hb10 (by omega)
  replace X0b := X0b.below hb10 (by omega)
  replace X1 := X1.below hb10 (by omega)
  replace Gi := Gi.below hb10 (by omega)
  replace P0 := Lib.hid (P0.out.below hb10 (by omega))
  replace XX0 := Lib.hid (XX0.out.below hb10 (by omega))
  have B10 := nxt B9 hb10 (by omega)
  clear hb10 B9
  obtain ⟨e0, e1⟩ := P0.out
  obtain ⟨e2, e3⟩ := XX0.out
  go_wp2_with fail
  clear e0 e1 e2 e3
  refine (toInts_any _ _ _ _ w.heap.size (HS1.out.below B10 (Nat.le_refl _)) (by omega) (by omega)).mono ?_
  rintro e w11 ⟨AT1, cT1, rfl, T1, hb11⟩
  have hz11 := hb11.size
  replace G := G.below hb11 (by omega)
  replace X0 := X0.below hb11 (by omega)
  replace X0b := X0b.below hb11 (by omega)
  replace X1 := X1.below hb11 (by omega)
  replace Gi := Gi.below hb11 (by omega)
  replace P0 := Lib.hid (P0.out.below hb11 (by omega))
  replace XX0 := Lib.hid (XX0.out.below hb11 (by omega))
  have B11 := nxt B10 hb11 (by omega)
  clear hb11 B10
  obtain ⟨e0, e1⟩ := P0.out
  obtain ⟨e2, e3⟩ := XX0.out
  go_wp2_with fail
  clear e0 e1 e2 e3
  refine (eqBel_any _ _ _ _ _ _ _ _ X1.sl T1.sl (by omega)).mono ?_
  rintro e w12 ⟨rfl, hb12⟩
  have hz12 := hb12.size
  replace G := G.below hb12 (by omega)
  replace X0 := X0.below hb12 (by omega)
  replace X0b := X0b.below hb12 (by omega)
  replace X1 := X1.below hb12 (by omega)
  replace Gi := Gi.below hb12 (by omega)
  replace T1 := T1.below hb12 (by omega)
  replace P0 := Lib.hid (P0.out.below hb12 (by omega))
  replace XX0 := Lib.hid (XX0.out.below hb12 (by omega))
  have B12 := nxt B11 hb12 (by omega)
  clear hb12 B11
  clear T1
  obtain ⟨e0, e1⟩ := P0.out
  obtain ⟨e2, e3⟩ := XX0.out
  go_wp2_with fail
  clear e0 e1 e2 e3
  refine (markTransfer_any _ _ _ _ _ _ _ _ _ _ _ _ X0 X0b (by omega) (by omega) qX05 (by omega) (by omega) (by omega) (by omega)).mono ?_
  rintro e w13 ⟨rfl, zs13, us13, hzl13, hul13, hmk13, hmu13, M13, N13, hon13⟩
  have hz13 := hon13.size
  have HZL13 := Lib.hid hzl13
  have HUL13 := Lib.hid hul13
  have HMK13 := Lib.hid hmk13
  have HMU13 := Lib.hid hmu13
  clear hzl13 hul13 hmk13 hmu13 X0 X0b
  replace G := G.only2 hon13 (by omega) (by omega)
  replace X1 := X1.only2 hon13 (by omega) (by omega)
  replace Gi := Gi.only2 hon13 (by omega) (by omega)
  replace P0 := Lib.hid (P0.out.only2 hon13 (by omega) (by omega))
  replace XX0 := Lib.hid (XX0.out.only2 hon13 (by omega) (by omega))
  have B13 := B12.trans (hon13.below (B := w.heap.size) (by omega) (by omega) (by omega))
  clear hon13 B12
  obtain ⟨e0, e1⟩ := P0.out
  obtain ⟨e2, e3⟩ := XX0.out
  go_wp2_with fail
  clear e0 e1 e2 e3
  refine (mark_any _ _ _ _ _ _ _ X1 (by omega) (by omega) (by omega)).mono ?_
  rintro e w14 ⟨rfl, zs14, hzl14, hmk14, M14, hon14⟩
  have hz14 := hon14.size
  have HZL14 := Lib.hid hzl14
  have HMK14 := Lib.hid hmk14
  clear hzl14 hmk14 X1
  replace G := G.only hon14 (by omega)
  replace Gi := Gi.only hon14 (by omega)
  replace M13 := M13.only hon14 (by omega)
  replace N13 := N13.only hon14 (by omega)
  replace P0 := Lib.hid (P0.out.only hon14 (by omega) P0.out.lt)
  replace XX0 := Lib.hid (XX0.out.only hon14 (by omega) XX0.out.lt)
  have B14 := B13.trans (hon14.below (B := w.heap.size) (by omega) (by omega))
  clear hon14 B13
  obtain ⟨e0, e1⟩ := P0.out
  obtain ⟨e2, e3⟩ := XX0.out
  go_wp2_with fail
  clear e0 e1 e2 e3
  refine (eqBel_any _ _ _ _ _ _ _ _ Gi.sl G.sl (by omega)).mono ?_
  rintro e w15 ⟨rfl, hb15⟩
  have hz15 := hb15.size
  replace G := G.below hb15 (by omega)
  replace Gi := Gi.below hb15 (by omega)
  replace M13 := M13.below hb15 (by omega)
  replace N13 := N13.below hb15 (by omega)
  replace M14 := M14.below hb15 (by omega)
  replace P0 := Lib.hid (P0.out.below hb15 (by omega))
  replace XX0 := Lib.hid (XX0.out.below hb15 (by omega))
  have B15 := nxt B14 hb15 (by omega)
  clear hb15 B14
  obtain ⟨e0, e1⟩ := P0.out
  obtain ⟨e2, e3⟩ := XX0.out
  go_wp2_with fail
  clear e0 e1 e2 e3
  refine (mark_any _ _ _ _ _ _ _ Gi (by omega) (by omega) (by omega)).mono ?_
  rintro e w16 ⟨rfl, zs16, hzl16, hmk16, M16, hon16⟩
  have hz16 := hon16.size
  have HZL16 := Lib.hid hzl16
  have HMK16 := Lib.hid hmk16
  clear hzl16 hmk16 Gi
  replace G := G.only hon16 (by omega)
  replace M13 := M13.only hon16 (by omega)
  replace N13 := N13.only hon16 (by omega)
  replace M14 := M14.only hon16 (by omega)
  replace P0 := Lib.hid (P0.out.only hon16 (by omega) P0.out.lt)
  replace XX0 := Lib.hid (XX0.out.only hon16 (by omega) XX0.out.lt)
  have B16 := B15.trans (hon16.below (B := w.heap.size) (by omega) (by omega))
  clear hon16 B15
  obtain ⟨e0, e1⟩ := P0.out
  obtain ⟨e2, e3⟩ := XX0.out
  go_wp2_with fail
  clear e0 e1 e2 e3
  refine (heldN_any _ _ _ _ HZL16.out _ _ _ M16.sl HMK16.out (by omega) (by omega) (by omega)).mono ?_
  rintro e wh ⟨rfl, rfl⟩
  obtain ⟨e0, e1⟩ := P0.out
  obtain ⟨e2, e3⟩ := XX0.out
  go_wp2_with fail
  clear e0 e1 e2 e3
  refine (toTransfer_any _ _ _ _ _ _ _ w.heap.size (HS0.out.below B16 (Nat.le_refl _)) (KS0.out.below B16 (Nat.le_refl _)) (by omega) (by omega) (by omega)).mono ?_
  rintro e w17 ⟨AY0, cY0, DY0, dY0, lY0a, hY0a, lY0b, hY0b, rfl, Y0, Y0b, qY01, qY02, qY03, qY04, qY05, hb17⟩
  have hz17 := hb17.size
  replace G := G.below hb17 (by omega)
  replace M13 := M13.below hb17 (by omega)
  replace N13 := N13.below hb17 (by omega)
  replace M14 := M14.below hb17 (by omega)
  replace M16 := M16.below hb17 (by omega)
  replace P0 := Lib.hid (P0.out.below hb17 (by omega))
  replace XX0 := Lib.hid (XX0.out.below hb17 (by omega))
  have B17 := nxt B16 hb17 (by omega)
  clear hb17 B16
  obtain ⟨e0, e1⟩ := P0.out
  obtain ⟨e2, e3⟩ := XX0.out
  go_wp2_with fail
  clear e0 e1 e2 e3
  refine (toInts_any _ _ _ _ w.heap.size (HS1.out.below B17 (Nat.le_refl _)) (by omega) (by omega)).mono ?_
  rintro e w18 ⟨AY1, cY1, rfl, Y1, hb18⟩
  have hz18 := hb18.size
  replace G := G.below hb18 (by omega)
  replace M13 := M13.below hb18 (by omega)
  replace N13 := N13.below hb18 (by omega)
  replace M14 := M14.below hb18 (by omega)
  replace M16 := M16.below hb18 (by omega)
  replace Y0 := Y0.below hb18 (by omega)
  replace Y0b := Y0b.below hb18 (by omega)
  replace P0 := Lib.hid (P0.out.below hb18 (by omega))
  replace XX0 := Lib.hid (XX0.out.below hb18 (by omega))
  have B18 := nxt B17 hb18 (by omega)
  clear hb18 B17
  obtain ⟨e0, e1⟩ := P0.out
  obtain ⟨e2, e3⟩ := XX0.out
  go_wp2_with fail
  clear e0 e1 e2 e3
  refine (implFilterSignal_any _ _ _ _ _ _ _ _ _ _ (Y0.arg (by omega) (by omega) HI0.out) (Y0b.arg (by omega) (by omega) KI0.out) (Y1.arg (by omega) (by omega) HI1.out)).mono ?_
  rintro e w19 ⟨ysj, codej, Aj, cj, rfl, HRj, lenj, Gj, hb19⟩
  have hrj := Lib.hid HRj
  clear HRj
  have hz19 := hb19.size
  replace G := G.below hb19 (by omega)
  replace M13 := M13.below hb19 (by omega)
  replace N13 := N13.below hb19 (by omega)
  replace M14 := M14.below hb19 (by omega)
  replace M16 := M16.below hb19 (by omega)
  replace Y0 := Y0.below hb19 (by omega)
  replace Y0b := Y0b.below hb19 (by omega)
  replace Y1 := Y1.below hb19 (by omega)
  replace P0 := Lib.hid (P0.out.below hb19 (by omega))
  replace XX0 := Lib.hid (XX0.out.below hb19 (by omega))
  have B19 := nxt B18 hb19 (by omega)
  clear hb19 B18
  obtain ⟨rfl, rfl⟩ := Prod.mk.inj (hr.out.trans hrj.out.symm)
  clear hrj
  clear Y0 Y0b Y1
  obtain ⟨e0, e1⟩ := P0.out
  obtain ⟨e2, e3⟩ := XX0.out
  go_wp2_with fail
  clear e0 e1 e2 e3
  refine (eqBel_any _ _ _ _ _ _ _ _ Gj.sl G.sl (by omega)).mono ?_
  rintro e w20 ⟨rfl, hb20⟩
  have hz20 := hb20.size
  replace G := G.below hb20 (by omega)
  replace M13 := M13.below hb20 (by omega)
  replace N13 := N13.below hb20 (by omega)
  replace M14 := M14.below hb20 (by omega)
  replace M16 := M16.below hb20 (by omega)
  replace Gj := Gj.below hb20 (by omega)
  replace P0 := Lib.hid (P0.out.below hb20 (by omega))
  replace XX0 := Lib.hid (XX0.out.below hb20 (by omega))
  have B20 := nxt B19 hb20 (by omega)
  clear hb20 B19
  obtain ⟨e0, e1⟩ := P0.out
  obtain ⟨e2, e3⟩ := XX0.out
  go_wp2_with fail
  clear e0 e1 e2 e3
  refine (heldN_any _ _ _ _ HZL16.out _ _ _ M16.sl HMK16.out (by omega) (by omega) (by omega)).mono ?_
  rintro e wh ⟨rfl, rfl⟩
  obtain ⟨e0, e1⟩ := P0.out
  obtain ⟨e2, e3⟩ := XX0.out
  go_wp2
  go_ret
  exact ⟨rfl, B20⟩

end Go.Proofs.Ytfgdkecmhgkpfaa
