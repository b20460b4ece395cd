/- The law TransferText, printed by laws3.py. -/
import Derived.Test.YtplioelpmfeabaaDoorUb
import Derived.Test.YtplioelpmfeabaaDoorWc
import Derived.Deep.RegionHeld3
import Derived.Deep.DeepCutAuto
namespace Go.Proofs.YtplioelpmfeabaaDoor
open Go.RowKit
set_option linter.unusedVariables false
set_option linter.unusedSimpArgs false

set_option maxRecDepth 100000 in
set_option maxHeartbeats 8000000 in
theorem walk_FnExactTransferText (A0 : Option Addr) (c0 : Nat) (xs0 : List Int) (D0 : Option Addr) (d0 : Nat) (ys0 : List Int) (w : World) (h0 : SlIn w w.heap.size A0 c0 xs0) (k0 : SlIn w w.heap.size D0 d0 ys0) (hP : PowAt w.heap.size w) : Calls Tryd.prog 10 #[.agg #[.slice A0 xs0.length c0, .slice D0 ys0.length d0]] w fun e w' => e = .returned (.bool true) ∧ Below w.heap.size w w' := by
  have PW := Lib.hid hP
  clear hP
  obtain ⟨hs0, hi0, hc0, hm0⟩ := h0
  obtain ⟨ks0, ki0, kc0, km0⟩ := k0
  have HS0 := Lib.hid hs0
  have HI0 := Lib.hid hi0
  clear hs0 hi0 hc0
  have KS0 := Lib.hid ks0
  have KI0 := Lib.hid ki0
  clear ks0 ki0 kc0
  have hb0 : Below w.heap.size w (w.alloc (.cells #[.slice A0 xs0.length c0, .slice D0 ys0.length d0] 49)) := by (repeat (first | exact Below.refl _ _ | assumption | refine Below.setCell ?_ (by (try simp) <;> omega) _ | refine Below.alloc ?_ (by (try simp) <;> omega) _ | refine below_drewN_ ?_ | refine Below.drew ?_))
  have hz0 : w.heap.size + 1 ≤ (w.alloc (.cells #[.slice A0 xs0.length c0, .slice D0 ys0.length d0] 49)).heap.size := by simp
  have P0 := Lib.hid (show Bx (w.alloc (.cells #[.slice A0 xs0.length c0, .slice D0 ys0.length d0] 49)) (w.heap.size) A0 xs0.length c0 D0 ys0.length d0 by constructor <;> go_simp)
  have B0 := hb0
  clear hb0
  go_enter Tryd.func10, Tryd.ntmps10
  obtain ⟨e0, e1⟩ := P0.out
  go_wp2_with fail
  clear e0 e1
  generalize (w.alloc (.cells #[.slice A0 xs0.length c0, .slice D0 ys0.length d0] 49)) = w0 at *
  refine (szTransfer_any _ _ _ _ _ _ _ _ (by omega) (by omega) hm0 km0).mono ?_
  rintro e w1 ⟨rfl, hb1⟩
  have hz1 := hb1.size
  replace P0 := Lib.hid (P0.out.below hb1 (by omega))
  have B1 := nxt B0 hb1 (by omega)
  clear hb1 B0
  by_cases z0 : (xs0.length : Int) + (ys0.length : Int) ≤ 1048576
  case neg =>
    rw [szT_no z0]
    go_wp2
    go_ret
    exact ⟨rfl, B1⟩
  rw [szT_ok z0]
  have hleft : ¬ 1048576 - (xs0.length : Int) - (ys0.length : Int) < 0 := by omega
  obtain ⟨e0, e1⟩ := P0.out
  go_wp2_with fail
  clear e0 e1
  refine (toTransfer_any _ _ _ _ _ _ _ w.heap.size (HS0.out.below B1 (Nat.le_refl _)) (KS0.out.below B1 (Nat.le_refl _)) (by omega) (by omega) (by omega)).mono ?_
  rintro e w2 ⟨AS0, cS0, DS0, dS0, lS0a, hS0a, lS0b, hS0b, rfl, S0, S0b, qS01, qS02, qS03, qS04, qS05, hb2⟩
  have hz2 := hb2.size
  replace P0 := Lib.hid (P0.out.below hb2 (by omega))
  have B2 := nxt B1 hb2 (by omega)
  clear hb2 B1
  obtain ⟨e0, e1⟩ := P0.out
  go_wp2_with fail
  clear e0 e1
  refine (specTransferText_any _ _ _ _ _ _ _ (S0.arg (by omega) (by omega) HI0.out) (S0b.arg (by omega) (by omega) KI0.out)).mono ?_
  rintro e w3 ⟨rfl, hb3⟩
  have hz3 := hb3.size
  replace S0 := S0.below hb3 (by omega)
  replace S0b := S0b.below hb3 (by omega)
  replace P0 := Lib.hid (P0.out.below hb3 (by omega))
  have B3 := nxt B2 hb3 (by omega)
  clear hb3 B2
  clear S0 S0b
  obtain ⟨e0, e1⟩ := P0.out
  go_wp2_with fail
  clear e0 e1
  refine (toTransfer_any _ _ _ _ _ _ _ w.heap.size (HS0.out.below B3 (Nat.le_refl _)) (KS0.out.below B3 (Nat.le_refl _)) (by omega) (by omega) (by omega)).mono ?_
  rintro e w4 ⟨AX0, cX0, DX0, dX0, lX0a, hX0a, lX0b, hX0b, rfl, X0, X0b, qX01, qX02, qX03, qX04, qX05, hb4⟩
  have hz4 := hb4.size
  replace P0 := Lib.hid (P0.out.below hb4 (by omega))
  have B4 := nxt B3 hb4 (by omega)
  clear hb4 B3
  have XX0 := Lib.hid (Bx.new w4 AX0 xs0.length cX0 DX0 ys0.length dX0 52)
  have hb5 : Below w4.heap.size w4 (w4.alloc (.cells #[.slice AX0 xs0.length cX0, .slice DX0 ys0.length dX0] 52)) := (Below.refl _ _).alloc (Nat.le_refl _) _
  have hy5 : w4.heap.size < (w4.alloc (.cells #[.slice AX0 xs0.length cX0, .slice DX0 ys0.length dX0] 52)).heap.size := by simp
  have hz5 := hb5.size
  replace X0 := X0.below hb5 (by omega)
  replace X0b := X0b.below hb5 (by omega)
  replace P0 := Lib.hid (P0.out.below hb5 (by omega))
  have B5 := nxt B4 hb5 (by omega)
  clear hb5 B4
  obtain ⟨e0, e1⟩ := P0.out
  obtain ⟨e2, e3⟩ := XX0.out
  go_wp2_with fail
  clear e0 e1 e2 e3
  generalize (w4.alloc (.cells #[.slice AX0 xs0.length cX0, .slice DX0 ys0.length dX0] 52)) = w5 at *
  refine (implTransferText_any _ _ _ _ _ _ _ (X0.arg (by omega) (by omega) HI0.out) (X0b.arg (by omega) (by omega) KI0.out) w.heap.size (PW.out.on B5) (by omega)).mono ?_
  rintro e w6 ⟨rfl, hb6⟩
  have hz6 := hb6.size
  replace X0 := X0.below hb6 (by omega)
  replace X0b := X0b.below hb6 (by omega)
  replace P0 := Lib.hid (P0.out.below hb6 (by omega))
  replace XX0 := Lib.hid (XX0.out.below hb6 (by omega))
  have B6 := nxt B5 hb6 (by omega)
  clear hb6 B5
  generalize str (transT xs0 ys0) = text at *
  obtain ⟨e0, e1⟩ := P0.out
  obtain ⟨e2, e3⟩ := XX0.out
  go_wp2_with fail
  clear e0 e1 e2 e3
  have TO0 : Hid (∀ w', Below w6.heap.size w6 w' ∧ w'.cell? ⟨w4.heap.size, 0, none⟩ = some (.slice AX0 xs0.length cX0) ∧ w'.cell? ⟨w4.heap.size, 1, none⟩ = some (.slice DX0 ys0.length dX0) ∧ w'.cell? ⟨w.heap.size, 0, none⟩ = some (.slice A0 xs0.length c0) ∧ w'.cell? ⟨w.heap.size, 1, none⟩ = some (.slice D0 ys0.length d0) → Calls Tryd.prog 37 #[.agg #[.slice A0 xs0.length c0, .slice D0 ys0.length d0]] w' (FreshT xs0 ys0 w')) :=
    fun w' hx => toTransfer_any _ _ _ _ _ _ w' w.heap.size (HS0.out.below (nxt B6 hx.1 (by omega)) (Nat.le_refl _)) (KS0.out.below (nxt B6 hx.1 (by omega)) (Nat.le_refl _)) (by have := hx.1.size; omega) (by omega) (by omega)
  go_region_held3 (fun w' => Below w6.heap.size w6 w' ∧ w'.cell? ⟨w4.heap.size, 0, none⟩ = some (.slice AX0 xs0.length cX0) ∧ w'.cell? ⟨w4.heap.size, 1, none⟩ = some (.slice DX0 ys0.length dX0) ∧ w'.cell? ⟨w.heap.size, 0, none⟩ = some (.slice A0 xs0.length c0) ∧ w'.cell? ⟨w.heap.size, 1, none⟩ = some (.slice D0 ys0.length d0))
    ((first | assumption | (refine Hid.out ?_; assumption) | (exact bx2_keep XX0 P0 (Below.drew (Below.refl _ _)))))
    ((first | (go_at_call 37; refine (TO0.out _ (by assumption)).mono ?_; rintro e wt7 ⟨AT0, cT0, DT0, dT0, lT0a, hT0a, lT0b, hT0b, rfl, T0, T0b, qT01, qT02, qT03, qT04, qT05, hbk⟩; have hS7 := Lib.hid (bx2_call XX0 P0 (by assumption) hbk); have hW7 := hS7.out.1; have hzt7 := hW7.size; clear hbk) | (go_at_call 39; refine (eqTransfer_any _ _ _ _ _ _ _ _ _ _ _ _ _ _ _ (X0.below hW7 (by omega)).sl (X0b.below hW7 (by omega)).sl T0.sl T0b.sl (by omega) (by omega) (by omega) (by omega) (by omega) (by omega)).mono ?_; rintro e w7 ⟨rfl, hbe7⟩; have hSe7 := Lib.hid (bx2_call XX0 P0 hS7.out hbe7))))
  have hb7 := nxt hW7 hbe7 (by omega)
  clear T0 T0b hS7 hSe7 hW7 hbe7 TO0
  have hz7 := hb7.size
  replace X0 := X0.below hb7 (by omega)
  replace X0b := X0b.below hb7 (by omega)
  replace P0 := Lib.hid (P0.out.below hb7 (by omega))
  replace XX0 := Lib.hid (XX0.out.below hb7 (by omega))
  have B7 := nxt B6 hb7 (by omega)
  clear hb7 B6
  obtain ⟨e0, e1⟩ := P0.out
  obtain ⟨e2, e3⟩ := XX0.out
  go_wp2
  go_ret
  exact ⟨rfl, B7⟩

end Go.Proofs.YtplioelpmfeabaaDoor
