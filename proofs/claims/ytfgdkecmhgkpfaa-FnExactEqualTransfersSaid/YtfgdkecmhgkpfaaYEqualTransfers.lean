/- The law EqualTransfers, printed by laws3.py. -/
import Derived.Test.YtfgdkecmhgkpfaaTk
import Derived.Deep.RegionHeld3
import Derived.Deep.DeepCutAuto
namespace Go.Proofs.Ytfgdkecmhgkpfaa
open Go.RowKit
set_option linter.unusedVariables false
set_option linter.unusedSimpArgs false

set_option maxRecDepth 100000 in
set_option maxHeartbeats 8000000 in
theorem walk_FnExactEqualTransfers (A0 : Option Addr) (c0 : Nat) (xs0 : List Int) (D0 : Option Addr) (d0 : Nat) (ys0 : List Int) (A1 : Option Addr) (c1 : Nat) (xs1 : List Int) (D1 : Option Addr) (d1 : Nat) (ys1 : List Int) (w : World) (h0 : SlIn w w.heap.size A0 c0 xs0) (k0 : SlIn w w.heap.size D0 d0 ys0) (h1 : SlIn w w.heap.size A1 c1 xs1) (k1 : SlIn w w.heap.size D1 d1 ys1) : Calls Try.prog 3 #[.agg #[.slice A0 xs0.length c0, .slice D0 ys0.length d0], .agg #[.slice A1 xs1.length c1, .slice D1 ys1.length d1]] w fun e w' => e = .returned (.bool true) ∧ Below w.heap.size w w' := by
  obtain ⟨hs0, hi0, hc0, hm0⟩ := h0
  obtain ⟨ks0, ki0, kc0, km0⟩ := k0
  obtain ⟨hs1, hi1, hc1, hm1⟩ := h1
  obtain ⟨ks1, ki1, kc1, km1⟩ := k1
  have HS0 := Lib.hid hs0
  have HI0 := Lib.hid hi0
  clear hs0 hi0 hc0
  have HS1 := Lib.hid hs1
  have HI1 := Lib.hid hi1
  clear hs1 hi1 hc1
  have KS0 := Lib.hid ks0
  have KI0 := Lib.hid ki0
  clear ks0 ki0 kc0
  have KS1 := Lib.hid ks1
  have KI1 := Lib.hid ki1
  clear ks1 ki1 kc1
  have hb0 : Below w.heap.size w ((w.alloc (.cells #[.slice A0 xs0.length c0, .slice D0 ys0.length d0] 24)).alloc (.cells #[.slice A1 xs1.length c1, .slice D1 ys1.length d1] 24)) := by (repeat (first | exact Below.refl _ _ | assumption | refine Below.setCell ?_ (by (try simp) <;> omega) _ | refine Below.alloc ?_ (by (try simp) <;> omega) _ | refine below_drewN_ ?_ | refine Below.drew ?_))
  have hz0 : w.heap.size + 2 ≤ ((w.alloc (.cells #[.slice A0 xs0.length c0, .slice D0 ys0.length d0] 24)).alloc (.cells #[.slice A1 xs1.length c1, .slice D1 ys1.length d1] 24)).heap.size := by simp
  have P0 := Lib.hid (show Bx ((w.alloc (.cells #[.slice A0 xs0.length c0, .slice D0 ys0.length d0] 24)).alloc (.cells #[.slice A1 xs1.length c1, .slice D1 ys1.length d1] 24)) (w.heap.size) A0 xs0.length c0 D0 ys0.length d0 by constructor <;> go_simp)
  have P1 := Lib.hid (show Bx ((w.alloc (.cells #[.slice A0 xs0.length c0, .slice D0 ys0.length d0] 24)).alloc (.cells #[.slice A1 xs1.length c1, .slice D1 ys1.length d1] 24)) (w.heap.size + 1) A1 xs1.length c1 D1 ys1.length d1 by constructor <;> go_simp)
  have B0 := hb0
  clear hb0
  go_enter Try.func3, Try.ntmps3
  obtain ⟨e0, e1⟩ := P0.out
  obtain ⟨e2, e3⟩ := P1.out
  go_wp2_with fail
  clear e0 e1 e2 e3
  generalize ((w.alloc (.cells #[.slice A0 xs0.length c0, .slice D0 ys0.length d0] 24)).alloc (.cells #[.slice A1 xs1.length c1, .slice D1 ys1.length d1] 24)) = w0 at *
  refine (szTransfer_any _ _ _ _ _ _ _ _ (by omega) (by omega) hm0 km0).mono ?_
  rintro e w1 ⟨rfl, hb1⟩
  have hz1 := hb1.size
  replace P0 := Lib.hid (P0.out.below hb1 (by omega))
  replace P1 := Lib.hid (P1.out.below hb1 (by omega))
  have B1 := nxt B0 hb1 (by omega)
  clear hb1 B0
  by_cases z0 : (xs0.length : Int) + (ys0.length : Int) ≤ 1048576
  case neg =>
    rw [szT_no z0]
    go_wp2
    go_ret
    exact ⟨rfl, B1⟩
  rw [szT_ok z0]
  obtain ⟨e0, e1⟩ := P0.out
  obtain ⟨e2, e3⟩ := P1.out
  go_wp2_with fail
  clear e0 e1 e2 e3
  refine (szTransfer_any _ _ _ _ _ _ _ _ (by omega) (by omega) hm1 km1).mono ?_
  rintro e w2 ⟨rfl, hb2⟩
  have hz2 := hb2.size
  replace P0 := Lib.hid (P0.out.below hb2 (by omega))
  replace P1 := Lib.hid (P1.out.below hb2 (by omega))
  have B2 := nxt B1 hb2 (by omega)
  clear hb2 B1
  by_cases z1 : (xs1.length : Int) + (ys1.length : Int) ≤ 1048576 - (xs0.length : Int) - (ys0.length : Int)
  case neg =>
    rw [szT_no z1]
    go_wp2
    go_ret
    exact ⟨rfl, B2⟩
  rw [szT_ok z1]
  have hleft : ¬ 1048576 - (xs0.length : Int) - (ys0.length : Int) - (xs1.length : Int) - (ys1.length : Int) < 0 := by omega
  go_wp2_with fail
  have TO0 : Hid (∀ w', Below w2.heap.size w2 w' ∧ w'.cell? ⟨w.heap.size, 0, none⟩ = some (.slice A0 xs0.length c0) ∧ w'.cell? ⟨w.heap.size, 1, none⟩ = some (.slice D0 ys0.length d0) ∧ w'.cell? ⟨w.heap.size + 1, 0, none⟩ = some (.slice A1 xs1.length c1) ∧ w'.cell? ⟨w.heap.size + 1, 1, none⟩ = some (.slice D1 ys1.length d1) → Calls Try.prog 11 #[.agg #[.slice A0 xs0.length c0, .slice D0 ys0.length d0]] w' (FreshT xs0 ys0 w')) :=
    fun w' hx => toTransfer_any _ _ _ _ _ _ w' w.heap.size (HS0.out.below (nxt B2 hx.1 (by omega)) (Nat.le_refl _)) (KS0.out.below (nxt B2 hx.1 (by omega)) (Nat.le_refl _)) (by have := hx.1.size; omega) (by omega) (by omega)
  have TO1 : Hid (∀ w', Below w2.heap.size w2 w' ∧ w'.cell? ⟨w.heap.size, 0, none⟩ = some (.slice A0 xs0.length c0) ∧ w'.cell? ⟨w.heap.size, 1, none⟩ = some (.slice D0 ys0.length d0) ∧ w'.cell? ⟨w.heap.size + 1, 0, none⟩ = some (.slice A1 xs1.length c1) ∧ w'.cell? ⟨w.heap.size + 1, 1, none⟩ = some (.slice D1 ys1.length d1) → Calls Try.prog 11 #[.agg #[.slice A1 xs1.length c1, .slice D1 ys1.length d1]] w' (FreshT xs1 ys1 w')) :=
    fun w' hx => toTransfer_any _ _ _ _ _ _ w' w.heap.size (HS1.out.below (nxt B2 hx.1 (by omega)) (Nat.le_refl _)) (KS1.out.below (nxt B2 hx.1 (by omega)) (Nat.le_refl _)) (by have := hx.1.size; omega) (by omega) (by omega)
  go_region_held3 (fun w' => Below w2.heap.size w2 w' ∧ w'.cell? ⟨w.heap.size, 0, none⟩ = some (.slice A0 xs0.length c0) ∧ w'.cell? ⟨w.heap.size, 1, none⟩ = some (.slice D0 ys0.length d0) ∧ w'.cell? ⟨w.heap.size + 1, 0, none⟩ = some (.slice A1 xs1.length c1) ∧ w'.cell? ⟨w.heap.size + 1, 1, none⟩ = some (.slice D1 ys1.length d1))
    ((first | assumption | (refine Hid.out ?_; assumption) | (exact bx2_keep P0 P1 (Below.drew (Below.refl _ _))) | (exact bx2_keep P0 P1 (Below.drew (Below.alloc (Below.refl _ _) (Nat.le_refl _) _))) | (refine bx2_alloc P0 P1 ?_ _; (first | assumption | (refine Hid.out ?_; assumption))) | (refine bx2_set P0 P1 (bx2_set P0 P1 ?_ _ _ ?_) _ _ ?_; ((first | assumption | (refine Hid.out ?_; assumption))); ((try simp) <;> omega); ((try simp) <;> omega)) | (refine bx2_set P0 P1 ?_ _ _ ?_; ((first | assumption | (refine Hid.out ?_; assumption))); ((try simp) <;> omega))))
    ((first | (go_at_call_of 11 (Value.agg #[.slice A0 xs0.length c0, .slice D0 ys0.length d0]); refine (TO0.out _ (by assumption)).mono ?_; rintro e wSx ⟨AS0, cS0, DS0, dS0, lS0a, hS0a, lS0b, hS0b, rfl, S0, S0b, qS01, qS02, qS03, qS04, qS05, hbSx⟩; have hSSx := Lib.hid (bx2_call P0 P1 (by assumption) hbSx); obtain ⟨hcSx, hfSx⟩ := bcell hbSx; have hySx := fun b h => Nat.lt_of_lt_of_le (n := b) h hbSx.size; have hzSx := hbSx.size; (try simp at hzSx); clear hbSx) | (go_at_call_of 11 (Value.agg #[.slice A1 xs1.length c1, .slice D1 ys1.length d1]); refine (TO1.out _ (by assumption)).mono ?_; rintro e wSy ⟨AS1, cS1, DS1, dS1, lS1a, hS1a, lS1b, hS1b, rfl, S1, S1b, qS11, qS12, qS13, qS14, qS15, hbSy⟩; have hSSy := Lib.hid (bx2_call P0 P1 (by assumption) hbSy); obtain ⟨hcSy, hfSy⟩ := bcell hbSy; have hySy := fun b h => Nat.lt_of_lt_of_le (n := b) h hbSy.size; have hzSy := hbSy.size; (try simp at hzSy); have S0' : Own wSy lS0a hS0a AS0 cS0 xs0 := (by (first | exact S0.below hbSy (by (try simp) <;> omega) | exact (S0.alloc _).below hbSy (by (try simp) <;> omega))); have S0b' : Own wSy lS0b hS0b DS0 dS0 ys0 := (by (first | exact S0b.below hbSy (by (try simp) <;> omega) | exact (S0b.alloc _).below hbSy (by (try simp) <;> omega))); clear hbSy) | (go_at_call 10; refine (specEqualTransfers_any _ _ _ _ _ _ _ _ _ _ _ _ _ (S0'.arg (by omega) (by omega) HI0.out) (S0b'.arg (by omega) (by omega) KI0.out) (S1.arg (by omega) (by omega) HI1.out) (S1b.arg (by omega) (by omega) KI1.out)).mono ?_; rintro e wSz ⟨b, rfl, HR, hbSz⟩; have hSSz := Lib.hid (bx2_call P0 P1 (by assumption) hbSz); obtain ⟨hcSz, hfSz⟩ := bcell hbSz; have hySz := fun b h => Nat.lt_of_lt_of_le (n := b) h hbSz.size; have hzSz := hbSz.size; (try simp at hzSz); have hr := Lib.hid HR; clear HR) | (go_at_call 10; refine (specEqualTransfers_any _ _ _ _ _ _ _ _ _ _ _ _ _ ((S0'.alloc _).arg (by simp; omega) (by omega) HI0.out) ((S0b'.alloc _).arg (by simp; omega) (by omega) KI0.out) ((S1.alloc _).arg (by simp; omega) (by omega) HI1.out) ((S1b.alloc _).arg (by simp; omega) (by omega) KI1.out)).mono ?_; rintro e wSz ⟨b, rfl, HR, hbSz⟩; have hSSz := Lib.hid (bx2_call P0 P1 (by assumption) hbSz); obtain ⟨hcSz, hfSz⟩ := bcell hbSz; have hySz := fun b h => Nat.lt_of_lt_of_le (n := b) h hbSz.size; have hzSz := hbSz.size; (try simp at hzSz); have hr := Lib.hid HR; clear HR)))
  have hb3 := hSSz.out.1
  generalize wSz = w3 at *
  clear S0 S0b S0' S0b' S1 S1b hSSx hSSy hSSz hcSx hfSx hcSy hfSy hcSz hfSz hySx hySy hySz TO0 TO1 hbSz
  have hz3 := hb3.size
  replace P0 := Lib.hid (P0.out.below hb3 (by omega))
  replace P1 := Lib.hid (P1.out.below hb3 (by omega))
  have B3 := nxt B2 hb3 (by omega)
  clear hb3 B2
  obtain ⟨e0, e1⟩ := P0.out
  obtain ⟨e2, e3⟩ := P1.out
  go_wp2_with fail
  clear e0 e1 e2 e3
  refine (toTransfer_any _ _ _ _ _ _ _ w.heap.size (HS0.out.below B3 (Nat.le_refl _)) (KS0.out.below B3 (Nat.le_refl _)) (by omega) (by omega) (by omega)).mono ?_
  rintro e w4 ⟨AX0, cX0, DX0, dX0, lX0a, hX0a, lX0b, hX0b, rfl, X0, X0b, qX01, qX02, qX03, qX04, qX05, hb4⟩
  have hz4 := hb4.size
  replace P0 := Lib.hid (P0.out.below hb4 (by omega))
  replace P1 := Lib.hid (P1.out.below hb4 (by omega))
  have B4 := nxt B3 hb4 (by omega)
  clear hb4 B3
  have XX0 := Lib.hid (Bx.new w4 AX0 xs0.length cX0 DX0 ys0.length dX0 27)
  have hb5 : Below w4.heap.size w4 (w4.alloc (.cells #[.slice AX0 xs0.length cX0, .slice DX0 ys0.length dX0] 27)) := (Below.refl _ _).alloc (Nat.le_refl _) _
  have hy5 : w4.heap.size < (w4.alloc (.cells #[.slice AX0 xs0.length cX0, .slice DX0 ys0.length dX0] 27)).heap.size := by simp
  have hz5 := hb5.size
  replace X0 := X0.below hb5 (by omega)
  replace X0b := X0b.below hb5 (by omega)
  replace P0 := Lib.hid (P0.out.below hb5 (by omega))
  replace P1 := Lib.hid (P1.out.below hb5 (by omega))
  have B5 := nxt B4 hb5 (by omega)
  clear hb5 B4
  obtain ⟨e0, e1⟩ := P0.out
  obtain ⟨e2, e3⟩ := P1.out
  obtain ⟨e4, e5⟩ := XX0.out
  go_wp2_with fail
  clear e0 e1 e2 e3 e4 e5
  generalize (w4.alloc (.cells #[.slice AX0 xs0.length cX0, .slice DX0 ys0.length dX0] 27)) = w5 at *
  refine (toTransfer_any _ _ _ _ _ _ _ w.heap.size (HS1.out.below B5 (Nat.le_refl _)) (KS1.out.below B5 (Nat.le_refl _)) (by omega) (by omega) (by omega)).mono ?_
  rintro e w6 ⟨AX1, cX1, DX1, dX1, lX1a, hX1a, lX1b, hX1b, rfl, X1, X1b, qX11, qX12, qX13, qX14, qX15, hb6⟩
  have hz6 := hb6.size
  replace X0 := X0.below hb6 (by omega)
  replace X0b := X0b.below hb6 (by omega)
  replace P0 := Lib.hid (P0.out.below hb6 (by omega))
  replace P1 := Lib.hid (P1.out.below hb6 (by omega))
  replace XX0 := Lib.hid (XX0.out.below hb6 (by omega))
  have B6 := nxt B5 hb6 (by omega)
  clear hb6 B5
  have XX1 := Lib.hid (Bx.new w6 AX1 xs1.length cX1 DX1 ys1.length dX1 27)
  have hb7 : Below w6.heap.size w6 (w6.alloc (.cells #[.slice AX1 xs1.length cX1, .slice DX1 ys1.length dX1] 27)) := (Below.refl _ _).alloc (Nat.le_refl _) _
  have hy7 : w6.heap.size < (w6.alloc (.cells #[.slice AX1 xs1.length cX1, .slice DX1 ys1.length dX1] 27)).heap.size := by simp
  have hz7 := hb7.size
  replace X0 := X0.below hb7 (by omega)
  replace X0b := X0b.below hb7 (by omega)
  replace X1 := X1.below hb7 (by omega)
  replace X1b := X1b.below hb7 (by omega)
  replace P0 := Lib.hid (P0.out.below hb7 (by omega))
  replace P1 := Lib.hid (P1.out.below hb7 (by omega))
  replace XX0 := Lib.hid (XX0.out.below hb7 (by omega))
  have B7 := nxt B6 hb7 (by omega)
  clear hb7 B6
  obtain ⟨e0, e1⟩ := P0.out
  obtain ⟨e2, e3⟩ := P1.out
  obtain ⟨e4, e5⟩ := XX0.out
  obtain ⟨e6, e7⟩ := XX1.out
  go_wp2_with fail
  clear e0 e1 e2 e3 e4 e5 e6 e7
  generalize (w6.alloc (.cells #[.slice AX1 xs1.length cX1, .slice DX1 ys1.length dX1] 27)) = w7 at *
  refine (implEqualTransfers_any _ _ _ _ _ _ _ _ _ _ _ _ _ (X0.arg (by omega) (by omega) HI0.out) (X0b.arg (by omega) (by omega) KI0.out) (X1.arg (by omega) (by omega) HI1.out) (X1b.arg (by omega) (by omega) KI1.out)).mono ?_
  rintro e w8 ⟨bi, rfl, HRi, hb8⟩
  have hri := Lib.hid HRi
  clear HRi
  have hz8 := hb8.size
  replace X0 := X0.below hb8 (by omega)
  replace X0b := X0b.below hb8 (by omega)
  replace X1 := X1.below hb8 (by omega)
  replace X1b := X1b.below hb8 (by omega)
  replace P0 := Lib.hid (P0.out.below hb8 (by omega))
  replace P1 := Lib.hid (P1.out.below hb8 (by omega))
  replace XX0 := Lib.hid (XX0.out.below hb8 (by omega))
  replace XX1 := Lib.hid (XX1.out.below hb8 (by omega))
  have B8 := nxt B7 hb8 (by omega)
  clear hb8 B7
  obtain rfl := hr.out.trans hri.out.symm
  clear hri
  obtain ⟨e0, e1⟩ := P0.out
  obtain ⟨e2, e3⟩ := P1.out
  obtain ⟨e4, e5⟩ := XX0.out
  obtain ⟨e6, e7⟩ := XX1.out
  go_wp2_with fail
  clear e0 e1 e2 e3 e4 e5 e6 e7
  have TO0 : Hid (∀ w', Below w8.heap.size w8 w' ∧ w'.cell? ⟨w4.heap.size, 0, none⟩ = some (.slice AX0 xs0.length cX0) ∧ w'.cell? ⟨w4.heap.size, 1, none⟩ = some (.slice DX0 ys0.length dX0) ∧ w'.cell? ⟨w.heap.size, 0, none⟩ = some (.slice A0 xs0.length c0) ∧ w'.cell? ⟨w.heap.size, 1, none⟩ = some (.slice D0 ys0.length d0) → Calls Try.prog 11 #[.agg #[.slice A0 xs0.length c0, .slice D0 ys0.length d0]] w' (FreshT xs0 ys0 w')) :=
    fun w' hx => toTransfer_any _ _ _ _ _ _ w' w.heap.size (HS0.out.below (nxt B8 hx.1 (by omega)) (Nat.le_refl _)) (KS0.out.below (nxt B8 hx.1 (by omega)) (Nat.le_refl _)) (by have := hx.1.size; omega) (by omega) (by omega)
  go_region_held3 (fun w' => Below w8.heap.size w8 w' ∧ w'.cell? ⟨w4.heap.size, 0, none⟩ = some (.slice AX0 xs0.length cX0) ∧ w'.cell? ⟨w4.heap.size, 1, none⟩ = some (.slice DX0 ys0.length dX0) ∧ w'.cell? ⟨w.heap.size, 0, none⟩ = some (.slice A0 xs0.length c0) ∧ w'.cell? ⟨w.heap.size, 1, none⟩ = some (.slice D0 ys0.length d0))
    ((first | assumption | (refine Hid.out ?_; assumption) | (exact bx2_keep XX0 P0 (Below.drew (Below.refl _ _)))))
    ((first | (go_at_call 11; refine (TO0.out _ (by assumption)).mono ?_; rintro e wt9 ⟨AT0, cT0, DT0, dT0, lT0a, hT0a, lT0b, hT0b, rfl, T0, T0b, qT01, qT02, qT03, qT04, qT05, hbk⟩; have hS9 := Lib.hid (bx2_call XX0 P0 (by assumption) hbk); have hW9 := hS9.out.1; have hzt9 := hW9.size; clear hbk) | (go_at_call 13; refine (eqTransfer_any _ _ _ _ _ _ _ _ _ _ _ _ _ _ _ (X0.below hW9 (by omega)).sl (X0b.below hW9 (by omega)).sl T0.sl T0b.sl (by omega) (by omega) (by omega) (by omega) (by omega) (by omega)).mono ?_; rintro e w9 ⟨rfl, hbe9⟩; have hSe9 := Lib.hid (bx2_call XX0 P0 hS9.out hbe9))))
  have hb9 := nxt hW9 hbe9 (by omega)
  clear T0 T0b hS9 hSe9 hW9 hbe9 TO0
  have hz9 := hb9.size
  replace X0 := X0.below hb9 (by omega)
  replace X0b := X0b.below hb9 (by omega)
  replace X1 := X1.below hb9 (by omega)
  replace X1b := X1b.below hb9 (by omega)
  replace P0 := Lib.hid (P0.out.below hb9 (by omega))
  replace P1 := Lib.hid (P1.out.below hb9 (by omega))
  replace XX0 := Lib.hid (XX0.out.below hb9 (by omega))
  replace XX1 := Lib.hid (XX1.out.below hb9 (by omega))
  have B9 := nxt B8 hb9 (by omega)
  clear hb9 B8
  obtain ⟨e0, e1⟩ := P0.out
  obtain ⟨e2, e3⟩ := P1.out
  obtain ⟨e4, e5⟩ := XX0.out
  obtain ⟨e6, e7⟩ := XX1.out
  go_wp2_with fail
  clear e0 e1 e2 e3 e4 e5 e6 e7
  have TO1 : Hid (∀ w', Below w9.heap.size w9 w' ∧ w'.cell? ⟨w6.heap.size, 0, none⟩ = some (.slice AX1 xs1.length cX1) ∧ w'.cell? ⟨w6.heap.size, 1, none⟩ = some (.slice DX1 ys1.length dX1) ∧ w'.cell? ⟨w.heap.size + 1, 0, none⟩ = some (.slice A1 xs1.length c1) ∧ w'.cell? ⟨w.heap.size + 1, 1, none⟩ = some (.slice D1 ys1.length d1) → Calls Try.prog 11 #[.agg #[.slice A1 xs1.length c1, .slice D1 ys1.length d1]] w' (FreshT xs1 ys1 w')) :=
    fun w' hx => toTransfer_any _ _ _ _ _ _ w' w.heap.size (HS1.out.below (nxt B9 hx.1 (by omega)) (Nat.le_refl _)) (KS1.out.below (nxt B9 hx.1 (by omega)) (Nat.le_refl _)) (by have := hx.1.size; omega) (by omega) (by omega)
  go_region_held3 (fun w' => Below w9.heap.size w9 w' ∧ w'.cell? ⟨w6.heap.size, 0, none⟩ = some (.slice AX1 xs1.length cX1) ∧ w'.cell? ⟨w6.heap.size, 1, none⟩ = some (.slice DX1 ys1.length dX1) ∧ w'.cell? ⟨w.heap.size + 1, 0, none⟩ = some (.slice A1 xs1.length c1) ∧ w'.cell? ⟨w.heap.size + 1, 1, none⟩ = some (.slice D1 ys1.length d1))
    ((first | assumption | (refine Hid.out ?_; assumption) | (exact bx2_keep XX1 P1 (Below.drew (Below.refl _ _)))))
    ((first | (go_at_call 11; refine (TO1.out _ (by assumption)).mono ?_; rintro e wt10 ⟨AT1, cT1, DT1, dT1, lT1a, hT1a, lT1b, hT1b, rfl, T1, T1b, qT11, qT12, qT13, qT14, qT15, hbk⟩; have hS10 := Lib.hid (bx2_call XX1 P1 (by assumption) hbk); have hW10 := hS10.out.1; have hzt10 := hW10.size; clear hbk) | (go_at_call 13; refine (eqTransfer_any _ _ _ _ _ _ _ _ _ _ _ _ _ _ _ (X1.below hW10 (by omega)).sl (X1b.below hW10 (by omega)).sl T1.sl T1b.sl (by omega) (by omega) (by omega) (by omega) (by omega) (by omega)).mono ?_; rintro e w10 ⟨rfl, hbe10⟩; have hSe10 := Lib.hid (bx2_call XX1 P1 hS10.out hbe10))))
  have hb10 := nxt hW10 hbe10 (by omega)
  clear T1 T1b hS10 hSe10 hW10 hbe10 TO1
  have hz10 := hb10.size
  replace X0 := X0.below hb10 (by omega)
  replace X0b := X0b.below hb10 (by omega)
  replace X1 := X1.below hb10 (by omega)
  replace X1b := X1b.below hb10 (by omega)
  replace P0 := Lib.hid (P0.out.below hb10 (by omega))
  replace P1 := Lib.hid (P1.out.below hb10 (by omega))
  replace XX0 := Lib.hid (XX0.out.below hb10 (by omega))
  replace XX1 := Lib.hid (XX1.out.below hb10 (by omega))
  have B10 := nxt B9 hb10 (by omega)
  clear hb10 B9
  obtain ⟨e0, e1⟩ := P0.out
  obtain ⟨e2, e3⟩ := P1.out
  obtain ⟨e4, e5⟩ := XX0.out
  obtain ⟨e6, e7⟩ := XX1.out
  go_wp2
  go_ret
  exact ⟨rfl, B10⟩

end Go.Proofs.Ytfgdkecmhgkpfaa
