/- The law ResponseOf, printed by laws3.py. -/
import Derived.Test.YtfgdkecmhgkpfaaTd
import Derived.Deep.RegionHeld3
import Derived.Deep.DeepCutAuto
namespace Go.Proofs.Ytfgdkecmhgkpfaa
open Go.RowKit
set_option linter.unusedVariables false
set_option linter.unusedSimpArgs false

set_option maxHeartbeats 8000000 in
theorem walk_FnExactResponseOf (A0 : Option Addr) (c0 : Nat) (xs0 : List Int) (D0 : Option Addr) (d0 : Nat) (ys0 : List Int) (n1 : Int) (w : World) (h0 : SlIn w w.heap.size A0 c0 xs0) (k0 : SlIn w w.heap.size D0 d0 ys0) (h1 : I64 n1) : Calls Try.prog 4 #[.agg #[.slice A0 xs0.length c0, .slice D0 ys0.length d0], .int .i64 n1] w fun e w' => e = .returned (.bool true) ∧ Below w.heap.size w w' := by
  obtain ⟨hs0, hi0, hc0, hm0⟩ := h0
  obtain ⟨ks0, ki0, kc0, km0⟩ := k0
  have HS0 := Lib.hid hs0
  have HI0 := Lib.hid hi0
  clear hs0 hi0 hc0
  have KS0 := Lib.hid ks0
  have KI0 := Lib.hid ki0
  clear ks0 ki0 kc0
  have hb0 : Below w.heap.size w (w.alloc (.cells #[.slice A0 xs0.length c0, .slice D0 ys0.length d0] 24)) := by (repeat (first | exact Below.refl _ _ | assumption | refine Below.setCell ?_ (by (try simp) <;> omega) _ | refine Below.alloc ?_ (by (try simp) <;> omega) _ | refine below_drewN_ ?_ | refine Below.drew ?_))
  have hz0 : w.heap.size + 1 ≤ (w.alloc (.cells #[.slice A0 xs0.length c0, .slice D0 ys0.length d0] 24)).heap.size := by simp
  have P0 := Lib.hid (show Bx (w.alloc (.cells #[.slice A0 xs0.length c0, .slice D0 ys0.length d0] 24)) (w.heap.size) A0 xs0.length c0 D0 ys0.length d0 by constructor <;> go_simp)
  have B0 := hb0
  clear hb0
  go_enter Try.func4, Try.ntmps4
  obtain ⟨e0, e1⟩ := P0.out
  go_wp2_with fail
  clear e0 e1
  generalize (w.alloc (.cells #[.slice A0 xs0.length c0, .slice D0 ys0.length d0] 24)) = w0 at *
  refine (szTransfer_any _ _ _ _ _ _ _ _ (by omega) (by omega) hm0 km0).mono ?_
  rintro e w1 ⟨rfl, hb1⟩
  have hz1 := hb1.size
  replace P0 := Lib.hid (P0.out.below hb1 (by omega))
  have B1 := nxt B0 hb1 (by omega)
  clear hb1 B0
  by_cases z0 : (xs0.length : Int) + (ys0.length : Int) ≤ 1048576
  case neg =>
    rw [szT_no z0]
    go_wp2
    go_ret
    exact ⟨rfl, B1⟩
  rw [szT_ok z0]
  have hleft : ¬ 1048576 - (xs0.length : Int) - (ys0.length : Int) < 0 := by omega
  obtain ⟨e0, e1⟩ := P0.out
  go_wp2_with fail
  clear e0 e1
  refine (toTransfer_any _ _ _ _ _ _ _ w.heap.size (HS0.out.below B1 (Nat.le_refl _)) (KS0.out.below B1 (Nat.le_refl _)) (by omega) (by omega) (by omega)).mono ?_
  rintro e w2 ⟨AS0, cS0, DS0, dS0, lS0a, hS0a, lS0b, hS0b, rfl, S0, S0b, qS01, qS02, qS03, qS04, qS05, hb2⟩
  have hz2 := hb2.size
  replace P0 := Lib.hid (P0.out.below hb2 (by omega))
  have B2 := nxt B1 hb2 (by omega)
  clear hb2 B1
  obtain ⟨e0, e1⟩ := P0.out
  go_wp2_with fail
  clear e0 e1
  refine (specResponseOf_any _ _ _ _ _ _ _ _ (S0.arg (by omega) (by omega) HI0.out) (S0b.arg (by omega) (by omega) KI0.out) h1).mono ?_
  rintro e w3 ⟨ys, code, A, c, rfl, HR, len, G, hb3⟩
  have hr := Lib.hid HR
  clear HR
  have hz3 := hb3.size
  replace S0 := S0.below hb3 (by omega)
  replace S0b := S0b.below hb3 (by omega)
  replace P0 := Lib.hid (P0.out.below hb3 (by omega))
  have B3 := nxt B2 hb3 (by omega)
  clear hb3 B2
  clear S0 S0b
  obtain ⟨e0, e1⟩ := P0.out
  go_wp2_with fail
  clear e0 e1
  refine (toTransfer_any _ _ _ _ _ _ _ w.heap.size (HS0.out.below B3 (Nat.le_refl _)) (KS0.out.below B3 (Nat.le_refl _)) (by omega) (by omega) (by omega)).mono ?_
  rintro e w4 ⟨AX0, cX0, DX0, dX0, lX0a, hX0a, lX0b, hX0b, rfl, X0, X0b, qX01, qX02, qX03, qX04, qX05, hb4⟩
  have hz4 := hb4.size
  replace G := G.below hb4 (by omega)
  replace P0 := Lib.hid (P0.out.below hb4 (by omega))
  have B4 := nxt B3 hb4 (by omega)
  clear hb4 B3
  have XX0 := Lib.hid (Bx.new w4 AX0 xs0.length cX0 DX0 ys0.length dX0 27)
  have hb5 : Below w4.heap.size w4 (w4.alloc (.cells #[.slice AX0 xs0.length cX0, .slice DX0 ys0.length dX0] 27)) := (Below.refl _ _).alloc (Nat.le_refl _) _
  have hy5 : w4.heap.size < (w4.alloc (.cells #[.slice AX0 xs0.length cX0, .slice DX0 ys0.length dX0] 27)).heap.size := by simp
  have hz5 := hb5.size
  replace G := G.below hb5 (by omega)
  replace X0 := X0.below hb5 (by omega)
  replace X0b := X0b.below hb5 (by omega)
  replace P0 := Lib.hid (P0.out.below hb5 (by omega))
  have B5 := nxt B4 hb5 (by omega)
  clear hb5 B4
  obtain ⟨e0, e1⟩ := P0.out
  obtain ⟨e2, e3⟩ := XX0.out
  go_wp2_with fail
  clear e0 e1 e2 e3
  generalize (w4.alloc (.cells #[.slice AX0 xs0.length cX0, .slice DX0 ys0.length dX0] 27)) = w5 at *
  refine (implResponseOf_any _ _ _ _ _ _ _ _ (X0.arg (by omega) (by omega) HI0.out) (X0b.arg (by omega) (by omega) KI0.out) h1).mono ?_
  rintro e w6 ⟨ysi, codei, Ai, ci, rfl, HRi, leni, Gi, hb6⟩
  have hri := Lib.hid HRi
  clear HRi
  have hz6 := hb6.size
  replace G := G.below hb6 (by omega)
  replace X0 := X0.below hb6 (by omega)
  replace X0b := X0b.below hb6 (by omega)
  replace P0 := Lib.hid (P0.out.below hb6 (by omega))
  replace XX0 := Lib.hid (XX0.out.below hb6 (by omega))
  have B6 := nxt B5 hb6 (by omega)
  clear hb6 B5
  obtain ⟨rfl, rfl⟩ := Prod.mk.inj (hr.out.trans hri.out.symm)
  clear hri
  obtain ⟨e0, e1⟩ := P0.out
  obtain ⟨e2, e3⟩ := XX0.out
  go_wp2_with fail
  clear e0 e1 e2 e3
  refine (eqBel_any _ _ _ _ _ _ _ _ Gi.sl G.sl (by omega)).mono ?_
  rintro e w7 ⟨rfl, hb7⟩
  have hz7 := hb7.size
  replace G := G.below hb7 (by omega)
  replace X0 := X0.below hb7 (by omega)
  replace X0b := X0b.below hb7 (by omega)
  replace Gi := Gi.below hb7 (by omega)
  replace P0 := Lib.hid (P0.out.below hb7 (by omega))
  replace XX0 := Lib.hid (XX0.out.below hb7 (by omega))
  have B7 := nxt B6 hb7 (by omega)
  clear hb7 B6
  obtain ⟨e0, e1⟩ := P0.out
  obtain ⟨e2, e3⟩ := XX0.out
  go_wp2_with fail
  clear e0 e1 e2 e3
  have TO0 : Hid (∀ w', Below w7.heap.size w7 w' ∧ w'.cell? ⟨w4.heap.size, 0, none⟩ = some (.slice AX0 xs0.length cX0) ∧ w'.cell? ⟨w4.heap.size, 1, none⟩ = some (.slice DX0 ys0.length dX0) ∧ w'.cell? ⟨w.heap.size, 0, none⟩ = some (.slice A0 xs0.length c0) ∧ w'.cell? ⟨w.heap.size, 1, none⟩ = some (.slice D0 ys0.length d0) → Calls Try.prog 11 #[.agg #[.slice A0 xs0.length c0, .slice D0 ys0.length d0]] w' (FreshT xs0 ys0 w')) :=
    fun w' hx => toTransfer_any _ _ _ _ _ _ w' w.heap.size (HS0.out.below (nxt B7 hx.1 (by omega)) (Nat.le_refl _)) (KS0.out.below (nxt B7 hx.1 (by omega)) (Nat.le_refl _)) (by have := hx.1.size; omega) (by omega) (by omega)
  go_region_held3 (fun w' => Below w7.heap.size w7 w' ∧ w'.cell? ⟨w4.heap.size, 0, none⟩ = some (.slice AX0 xs0.length cX0) ∧ w'.cell? ⟨w4.heap.size, 1, none⟩ = some (.slice DX0 ys0.length dX0) ∧ w'.cell? ⟨w.heap.size, 0, none⟩ = some (.slice A0 xs0.length c0) ∧ w'.cell? ⟨w.heap.size, 1, none⟩ = some (.slice D0 ys0.length d0))
    ((first | assumption | (refine Hid.out ?_; assumption) | (exact bx2_keep XX0 P0 (Below.drew (Below.refl _ _)))))
    ((first | (go_at_call 11; refine (TO0.out _ (by assumption)).mono ?_; rintro e wt8 ⟨AT0, cT0, DT0, dT0, lT0a, hT0a, lT0b, hT0b, rfl, T0, T0b, qT01, qT02, qT03, qT04, qT05, hbk⟩; have hS8 := Lib.hid (bx2_call XX0 P0 (by assumption) hbk); have hW8 := hS8.out.1; have hzt8 := hW8.size; clear hbk) | (go_at_call 13; refine (eqTransfer_any _ _ _ _ _ _ _ _ _ _ _ _ _ _ _ (X0.below hW8 (by omega)).sl (X0b.below hW8 (by omega)).sl T0.sl T0b.sl (by omega) (by omega) (by omega) (by omega) (by omega) (by omega)).mono ?_; rintro e w8 ⟨rfl, hbe8⟩; have hSe8 := Lib.hid (bx2_call XX0 P0 hS8.out hbe8))))
  have hb8 := nxt hW8 hbe8 (by omega)
  clear T0 T0b hS8 hSe8 hW8 hbe8 TO0
  have hz8 := hb8.size
  replace G := G.below hb8 (by omega)
  replace X0 := X0.below hb8 (by omega)
  replace X0b := X0b.below hb8 (by omega)
  replace Gi := Gi.below hb8 (by omega)
  replace P0 := Lib.hid (P0.out.below hb8 (by omega))
  replace XX0 := Lib.hid (XX0.out.below hb8 (by omega))
  have B8 := nxt B7 hb8 (by omega)
  clear hb8 B7
  obtain ⟨e0, e1⟩ := P0.out
  obtain ⟨e2, e3⟩ := XX0.out
  go_wp2_with fail
  clear e0 e1 e2 e3
  refine (markTransfer_any _ _ _ _ _ _ _ _ _ _ _ _ X0 X0b (by omega) (by omega) qX05 (by omega) (by omega) (by omega) (by omega)).mono ?_
  rintro e w9 ⟨rfl, zs9, us9, hzl9, hul9, hmk9, hmu9, M9, N9, hon9⟩
  have hz9 := hon9.size
  have HZL9 := Lib.hid hzl9
  have HUL9 := Lib.hid hul9
  have HMK9 := Lib.hid hmk9
  have HMU9 := Lib.hid hmu9
  clear hzl9 hul9 hmk9 hmu9 X0 X0b
  replace G := G.only2 hon9 (by omega) (by omega)
  replace Gi := Gi.only2 hon9 (by omega) (by omega)
  replace P0 := Lib.hid (P0.out.only2 hon9 (by omega) (by omega))
  replace XX0 := Lib.hid (XX0.out.only2 hon9 (by omega) (by omega))
  have B9 := B8.trans (hon9.below (B := w.heap.size) (by omega) (by omega) (by omega))
  clear hon9 B8
  obtain ⟨e0, e1⟩ := P0.out
  obtain ⟨e2, e3⟩ := XX0.out
  go_wp2_with fail
  clear e0 e1 e2 e3
  refine (eqBel_any _ _ _ _ _ _ _ _ Gi.sl G.sl (by omega)).mono ?_
  rintro e w10 ⟨rfl, hb10⟩
  have hz10 := hb10.size
  replace G := G.below hb10 (by omega)
  replace Gi := Gi.below hb10 (by omega)
  replace M9 := M9.below hb10 (by omega)
  replace N9 := N9.below hb10 (by omega)
  replace P0 := Lib.hid (P0.out.below hb10 (by omega))
  replace XX0 := Lib.hid (XX0.out.below hb10 (by omega))
  have B10 := nxt B9 hb10 (by omega)
  clear hb10 B9
  obtain ⟨e0, e1⟩ := P0.out
  obtain ⟨e2, e3⟩ := XX0.out
  go_wp2_with fail
  clear e0 e1 e2 e3
  refine (mark_any _ _ _ _ _ _ _ Gi (by omega) (by omega) (by omega)).mono ?_
  rintro e w11 ⟨rfl, zs11, hzl11, hmk11, M11, hon11⟩
  have hz11 := hon11.size
  have HZL11 := Lib.hid hzl11
  have HMK11 := Lib.hid hmk11
  clear hzl11 hmk11 Gi
  replace G := G.only hon11 (by omega)
  replace M9 := M9.only hon11 (by omega)
  replace N9 := N9.only hon11 (by omega)
  replace P0 := Lib.hid (P0.out.only hon11 (by omega) P0.out.lt)
  replace XX0 := Lib.hid (XX0.out.only hon11 (by omega) XX0.out.lt)
  have B11 := B10.trans (hon11.below (B := w.heap.size) (by omega) (by omega))
  clear hon11 B10
  obtain ⟨e0, e1⟩ := P0.out
  obtain ⟨e2, e3⟩ := XX0.out
  go_wp2_with fail
  clear e0 e1 e2 e3
  refine (heldN_any _ _ _ _ HZL11.out _ _ _ M11.sl HMK11.out (by omega) (by omega) (by omega)).mono ?_
  rintro e wh ⟨rfl, rfl⟩
  obtain ⟨e0, e1⟩ := P0.out
  obtain ⟨e2, e3⟩ := XX0.out
  go_wp2_with fail
  clear e0 e1 e2 e3
  refine (toTransfer_any _ _ _ _ _ _ _ w.heap.size (HS0.out.below B11 (Nat.le_refl _)) (KS0.out.below B11 (Nat.le_refl _)) (by omega) (by omega) (by omega)).mono ?_
  rintro e w12 ⟨AY0, cY0, DY0, dY0, lY0a, hY0a, lY0b, hY0b, rfl, Y0, Y0b, qY01, qY02, qY03, qY04, qY05, hb12⟩
  have hz12 := hb12.size
  replace G := G.below hb12 (by omega)
  replace M9 := M9.below hb12 (by omega)
  replace N9 := N9.below hb12 (by omega)
  replace M11 := M11.below hb12 (by omega)
  replace P0 := Lib.hid (P0.out.below hb12 (by omega))
  replace XX0 := Lib.hid (XX0.out.below hb12 (by omega))
  have B12 := nxt B11 hb12 (by omega)
  clear hb12 B11
  obtain ⟨e0, e1⟩ := P0.out
  obtain ⟨e2, e3⟩ := XX0.out
  go_wp2_with fail
  clear e0 e1 e2 e3
  refine (implResponseOf_any _ _ _ _ _ _ _ _ (Y0.arg (by omega) (by omega) HI0.out) (Y0b.arg (by omega) (by omega) KI0.out) h1).mono ?_
  rintro e w13 ⟨ysj, codej, Aj, cj, rfl, HRj, lenj, Gj, hb13⟩
  have hrj := Lib.hid HRj
  clear HRj
  have hz13 := hb13.size
  replace G := G.below hb13 (by omega)
  replace M9 := M9.below hb13 (by omega)
  replace N9 := N9.below hb13 (by omega)
  replace M11 := M11.below hb13 (by omega)
  replace Y0 := Y0.below hb13 (by omega)
  replace Y0b := Y0b.below hb13 (by omega)
  replace P0 := Lib.hid (P0.out.below hb13 (by omega))
  replace XX0 := Lib.hid (XX0.out.below hb13 (by omega))
  have B13 := nxt B12 hb13 (by omega)
  clear hb13 B12
  obtain ⟨rfl, rfl⟩ := Prod.mk.inj (hr.out.trans hrj.out.symm)
  clear hrj
  clear Y0 Y0b
  obtain ⟨e0, e1⟩ := P0.out
  obtain ⟨e2, e3⟩ := XX0.out
  go_wp2_with fail
  clear e0 e1 e2 e3
  refine (eqBel_any _ _ _ _ _ _ _ _ Gj.sl G.sl (by omega)).mono ?_
  rintro e w14 ⟨rfl, hb14⟩
  have hz14 := hb14.size
  replace G := G.below hb14 (by omega)
  replace M9 := M9.below hb14 (by omega)
  replace N9 := N9.below hb14 (by omega)
  replace M11 := M11.below hb14 (by omega)
  replace Gj := Gj.below hb14 (by omega)
  replace P0 := Lib.hid (P0.out.below hb14 (by omega))
  replace XX0 := Lib.hid (XX0.out.below hb14 (by omega))
  have B14 := nxt B13 hb14 (by omega)
  clear hb14 B13
  obtain ⟨e0, e1⟩ := P0.out
  obtain ⟨e2, e3⟩ := XX0.out
  go_wp2_with fail
  clear e0 e1 e2 e3
  refine (heldN_any _ _ _ _ HZL11.out _ _ _ M11.sl HMK11.out (by omega) (by omega) (by omega)).mono ?_
  rintro e wh ⟨rfl, rfl⟩
  obtain ⟨e0, e1⟩ := P0.out
  obtain ⟨e2, e3⟩ := XX0.out
  go_wp2
  go_ret
  exact ⟨rfl, B14⟩

end Go.Proofs.Ytfgdkecmhgkpfaa
