/- The law FeedbackTransfer, printed by laws3.py. -/
import Derived.Test.YtfgdkecmhgkpfaaTj
import Derived.Deep.RegionHeld3
import Derived.Deep.DeepCutAuto
namespace Go.Proofs.Ytfgdkecmhgkpfaa
open Go.RowKit
set_option linter.unusedVariables false
set_option linter.unusedSimpArgs false

set_option maxRecDepth 100000 in
set_option maxHeartbeats 8000000 in
theorem walk_FnExactFeedbackTransfer (A0 : Option Addr) (c0 : Nat) (xs0 : List Int) (D0 : Option Addr) (d0 : Nat) (ys0 : List Int) (A1 : Option Addr) (c1 : Nat) (xs1 : List Int) (D1 : Option Addr) (d1 : Nat) (ys1 : List Int) (w : World) (h0 : SlIn w w.heap.size A0 c0 xs0) (k0 : SlIn w w.heap.size D0 d0 ys0) (h1 : SlIn w w.heap.size A1 c1 xs1) (k1 : SlIn w w.heap.size D1 d1 ys1) : Calls Try.prog 8 #[.agg #[.slice A0 xs0.length c0, .slice D0 ys0.length d0], .agg #[.slice A1 xs1.length c1, .slice D1 ys1.length d1]] w fun e w' => e = .returned (.bool true) ∧ Below w.heap.size w w' := by
  obtain ⟨hs0, hi0, hc0, hm0⟩ := h0
  obtain ⟨ks0, ki0, kc0, km0⟩ := k0
  obtain ⟨hs1, hi1, hc1, hm1⟩ := h1
  obtain ⟨ks1, ki1, kc1, km1⟩ := k1
  have HS0 := Lib.hid hs0
  have HI0 := Lib.hid hi0
  clear hs0 hi0 hc0
  have HS1 := Lib.hid hs1
  have HI1 := Lib.hid hi1
  clear hs1 hi1 hc1
  have KS0 := Lib.hid ks0
  have KI0 := Lib.hid ki0
  clear ks0 ki0 kc0
  have KS1 := Lib.hid ks1
  have KI1 := Lib.hid ki1
  clear ks1 ki1 kc1
  have hb0 : Below w.heap.size w ((w.alloc (.cells #[.slice A0 xs0.length c0, .slice D0 ys0.length d0] 24)).alloc (.cells #[.slice A1 xs1.length c1, .slice D1 ys1.length d1] 24)) := by (repeat (first | exact Below.refl _ _ | assumption | refine Below.setCell ?_ (by (try simp) <;> omega) _ | refine Below.alloc ?_ (by (try simp) <;> omega) _ | refine below_drewN_ ?_ | refine Below.drew ?_))
  have hz0 : w.heap.size + 2 ≤ ((w.alloc (.cells #[.slice A0 xs0.length c0, .slice D0 ys0.length d0] 24)).alloc (.cells #[.slice A1 xs1.length c1, .slice D1 ys1.length d1] 24)).heap.size := by simp
  have P0 := Lib.hid (show Bx ((w.alloc (.cells #[.slice A0 xs0.length c0, .slice D0 ys0.length d0] 24)).alloc (.cells #[.slice A1 xs1.length c1, .slice D1 ys1.length d1] 24)) (w.heap.size) A0 xs0.length c0 D0 ys0.length d0 by constructor <;> go_simp)
  have P1 := Lib.hid (show Bx ((w.alloc (.cells #[.slice A0 xs0.length c0, .slice D0 ys0.length d0] 24)).alloc (.cells #[.slice A1 xs1.length c1, .slice D1 ys1.length d1] 24)) (w.heap.size + 1) A1 xs1.length c1 D1 ys1.length d1 by constructor <;> go_simp)
  have B0 := hb0
  clear hb0
  go_enter Try.func8, Try.ntmps8
  obtain ⟨e0, e1⟩ := P0.out
  obtain ⟨e2, e3⟩ := P1.out
  go_wp2_with fail
  clear e0 e1 e2 e3
  generalize ((w.alloc (.cells #[.slice A0 xs0.length c0, .slice D0 ys0.length d0] 24)).alloc (.cells #[.slice A1 xs1.length c1, .slice D1 ys1.length d1] 24)) = w0 at *
  refine (szTransfer_any _ _ _ _ _ _ _ _ (by omega) (by omega) hm0 km0).mono ?_
  rintro e w1 ⟨rfl, hb1⟩
  have hz1 := hb1.size
  replace P0 := Lib.hid (P0.out.below hb1 (by omega))
  replace P1 := Lib.hid (P1.out.below hb1 (by omega))
  have B1 := nxt B0 hb1 (by omega)
  clear hb1 B0
  by_cases z0 : (xs0.length : Int) + (ys0.length : Int) ≤ 1048576
  case neg =>
    rw [szT_no z0]
    go_wp2
    go_ret
    exact ⟨rfl, B1⟩
  rw [szT_ok z0]
  obtain ⟨e0, e1⟩ := P0.out
  obtain ⟨e2, e3⟩ := P1.out
  go_wp2_with fail
  clear e0 e1 e2 e3
  refine (szTransfer_any _ _ _ _ _ _ _ _ (by omega) (by omega) hm1 km1).mono ?_
  rintro e w2 ⟨rfl, hb2⟩
  have hz2 := hb2.size
  replace P0 := Lib.hid (P0.out.below hb2 (by omega))
  replace P1 := Lib.hid (P1.out.below hb2 (by omega))
  have B2 := nxt B1 hb2 (by omega)
  clear hb2 B1
  by_cases z1 : (xs1.length : Int) + (ys1.length : Int) ≤ 1048576 - (xs0.length : Int) - (ys0.length : Int)
  case neg =>
    rw [szT_no z1]
    go_wp2
    go_ret
    exact ⟨rfl, B2⟩
  rw [szT_ok z1]
  have hleft : ¬ 1048576 - (xs0.length : Int) - (ys0.length : Int) - (xs1.length : Int) - (ys1.length : Int) < 0 := by omega
  go_upto_region 8 with fail
  have TO0 : Hid (∀ w', Below w2.heap.size w2 w' ∧ w'.cell? ⟨w.heap.size, 0, none⟩ = some (.slice A0 xs0.length c0) ∧ w'.cell? ⟨w.heap.size, 1, none⟩ = some (.slice D0 ys0.length d0) ∧ w'.cell? ⟨w.heap.size + 1, 0, none⟩ = some (.slice A1 xs1.length c1) ∧ w'.cell? ⟨w.heap.size + 1, 1, none⟩ = some (.slice D1 ys1.length d1) → Calls Try.prog 11 #[.agg #[.slice A0 xs0.length c0, .slice D0 ys0.length d0]] w' (FreshT xs0 ys0 w')) :=
    fun w' hx => toTransfer_any _ _ _ _ _ _ w' w.heap.size (HS0.out.below (nxt B2 hx.1 (by omega)) (Nat.le_refl _)) (KS0.out.below (nxt B2 hx.1 (by omega)) (Nat.le_refl _)) (by have := hx.1.size; omega) (by omega) (by omega)
  have TO1 : Hid (∀ w', Below w2.heap.size w2 w' ∧ w'.cell? ⟨w.heap.size, 0, none⟩ = some (.slice A0 xs0.length c0) ∧ w'.cell? ⟨w.heap.size, 1, none⟩ = some (.slice D0 ys0.length d0) ∧ w'.cell? ⟨w.heap.size + 1, 0, none⟩ = some (.slice A1 xs1.length c1) ∧ w'.cell? ⟨w.heap.size + 1, 1, none⟩ = some (.slice D1 ys1.length d1) → Calls Try.prog 11 #[.agg #[.slice A1 xs1.length c1, .slice D1 ys1.length d1]] w' (FreshT xs1 ys1 w')) :=
    fun w' hx => toTransfer_any _ _ _ _ _ _ w' w.heap.size (HS1.out.below (nxt B2 hx.1 (by omega)) (Nat.le_refl _)) (KS1.out.below (nxt B2 hx.1 (by omega)) (Nat.le_refl _)) (by have := hx.1.size; omega) (by omega) (by omega)
  go_cut [6, 7] (fun s t wx => GotT w2 (feedbackOf xs0 ys0 xs1 ys1) s t wx)
  case first =>
    go_region_held3 (fun w' => Below w2.heap.size w2 w' ∧ w'.cell? ⟨w.heap.size, 0, none⟩ = some (.slice A0 xs0.length c0) ∧ w'.cell? ⟨w.heap.size, 1, none⟩ = some (.slice D0 ys0.length d0) ∧ w'.cell? ⟨w.heap.size + 1, 0, none⟩ = some (.slice A1 xs1.length c1) ∧ w'.cell? ⟨w.heap.size + 1, 1, none⟩ = some (.slice D1 ys1.length d1))
      ((first | assumption | (refine Hid.out ?_; assumption) | (exact bx2_keep P0 P1 (Below.drew (Below.refl _ _))) | (exact bx2_keep P0 P1 (Below.drew (Below.alloc (Below.refl _ _) (Nat.le_refl _) _))) | (refine bx2_alloc P0 P1 ?_ _; (first | assumption | (refine Hid.out ?_; assumption))) | (refine bx2_set P0 P1 (bx2_set P0 P1 ?_ _ _ ?_) _ _ ?_; ((first | assumption | (refine Hid.out ?_; assumption))); ((try simp) <;> omega); ((try simp) <;> omega)) | (refine bx2_set P0 P1 ?_ _ _ ?_; ((first | assumption | (refine Hid.out ?_; assumption))); ((try simp) <;> omega))))
      ((first | (go_at_call_of 11 (Value.agg #[.slice A0 xs0.length c0, .slice D0 ys0.length d0]); refine (TO0.out _ (by assumption)).mono ?_; rintro e wSx ⟨AS0, cS0, DS0, dS0, lS0a, hS0a, lS0b, hS0b, rfl, S0, S0b, qS01, qS02, qS03, qS04, qS05, hbSx⟩; (try simp at qS01); (try simp at qS02); (try simp at qS03); (try simp at qS04); have hSSx := Lib.hid (bx2_call P0 P1 (by assumption) hbSx); obtain ⟨hcSx, hfSx⟩ := bcell hbSx; have hySx := fun b h => Nat.lt_of_lt_of_le (n := b) h hbSx.size; have hzSx := hbSx.size; (try simp at hzSx); (first | (have ESx0 : wSx.cell? ⟨w2.heap.size, 0, none⟩ = some (.slice none 0 0) := (hcSx _ 0 (by (first | (simp; done) | fail))).trans (by (first | (go_simp; done) | fail)); have ESx1 : wSx.cell? ⟨w2.heap.size, 1, none⟩ = some (.slice none 0 0) := (hcSx _ 1 (by (first | (simp; done) | fail))).trans (by (first | (go_simp; done) | fail)); have FSx0 : wSx.frozen? ⟨w2.heap.size, 0, none⟩ = false := (hfSx _ 0 (by (first | (simp; done) | fail))).trans (by (first | (go_simp; done) | fail)); have FSx1 : wSx.frozen? ⟨w2.heap.size, 1, none⟩ = false := (hfSx _ 1 (by (first | (simp; done) | fail))).trans (by (first | (go_simp; done) | fail))) | skip); clear hcSx hfSx hySx; clear hbSx) | (go_at_call_of 11 (Value.agg #[.slice A1 xs1.length c1, .slice D1 ys1.length d1]); refine (TO1.out _ (by assumption)).mono ?_; rintro e wSy ⟨AS1, cS1, DS1, dS1, lS1a, hS1a, lS1b, hS1b, rfl, S1, S1b, qS11, qS12, qS13, qS14, qS15, hbSy⟩; (try simp at qS11); (try simp at qS12); (try simp at qS13); (try simp at qS14); have hSSy := Lib.hid (bx2_call P0 P1 (by assumption) hbSy); obtain ⟨hcSy, hfSy⟩ := bcell hbSy; have hySy := fun b h => Nat.lt_of_lt_of_le (n := b) h hbSy.size; have hzSy := hbSy.size; (try simp at hzSy); have S0' : Own wSy lS0a hS0a AS0 cS0 xs0 := (by (first | exact S0.below hbSy (by (try simp) <;> omega) | exact (S0.alloc _).below hbSy (by (try simp) <;> omega))); have S0b' : Own wSy lS0b hS0b DS0 dS0 ys0 := (by (first | exact S0b.below hbSy (by (try simp) <;> omega) | exact (S0b.alloc _).below hbSy (by (try simp) <;> omega))); (first | (have ESy0 := (hcSy _ 0 (World.block_lt_of_cell? _ _ ESx0)).trans ESx0; have ESy1 := (hcSy _ 1 (World.block_lt_of_cell? _ _ ESx0)).trans ESx1; have FSy0 := (hfSy _ 0 (World.block_lt_of_cell? _ _ ESx0)).trans FSx0; have FSy1 := (hfSy _ 1 (World.block_lt_of_cell? _ _ ESx0)).trans FSx1) | (have ESy0 : wSy.cell? ⟨wSx.heap.size, 0, none⟩ = some (.slice none 0 0) := (hcSy _ 0 (by (first | (simp; done) | fail))).trans (by (first | (go_simp; done) | fail)); have ESy1 : wSy.cell? ⟨wSx.heap.size, 1, none⟩ = some (.slice none 0 0) := (hcSy _ 1 (by (first | (simp; done) | fail))).trans (by (first | (go_simp; done) | fail)); have FSy0 : wSy.frozen? ⟨wSx.heap.size, 0, none⟩ = false := (hfSy _ 0 (by (first | (simp; done) | fail))).trans (by (first | (go_simp; done) | fail)); have FSy1 : wSy.frozen? ⟨wSx.heap.size, 1, none⟩ = false := (hfSy _ 1 (by (first | (simp; done) | fail))).trans (by (first | (go_simp; done) | fail))) | skip); clear hcSy hfSy hySy; clear hbSy) | (go_at_call 28; refine (specFeedbackTransfer_any _ _ _ _ _ _ _ _ _ _ _ _ _ (S0'.arg (by omega) (by omega) HI0.out) (S0b'.arg (by omega) (by omega) KI0.out) (S1.arg (by omega) (by omega) HI1.out) (S1b.arg (by omega) (by omega) KI1.out)).mono ?_; rintro e wSz ⟨ysr, zsr, coder, Ar, cr, Dr, dr, lra, hra, lrb, hrb, rfl, HRr, lenr, lezr, Gr, Kr, qr1, qr2, qr3, qr4, qr5, hbSz⟩; (try simp at qr1); (try simp at qr2); (try simp at qr3); (try simp at qr4); have hSSz := Lib.hid (bx2_call P0 P1 (by assumption) hbSz); obtain ⟨hcSz, hfSz⟩ := bcell hbSz; have hySz := fun b h => Nat.lt_of_lt_of_le (n := b) h hbSz.size; have hzSz := hbSz.size; (try simp at hzSz); have hrr := Lib.hid HRr; clear HRr; (first | (have ESz0 := (hcSz _ 0 (World.block_lt_of_cell? _ _ ESy0)).trans ESy0; have ESz1 := (hcSz _ 1 (World.block_lt_of_cell? _ _ ESy0)).trans ESy1; have FSz0 := (hfSz _ 0 (World.block_lt_of_cell? _ _ ESy0)).trans FSy0; have FSz1 := (hfSz _ 1 (World.block_lt_of_cell? _ _ ESy0)).trans FSy1) | (have ESz0 : wSz.cell? ⟨wSy.heap.size, 0, none⟩ = some (.slice none 0 0) := (hcSz _ 0 (by (first | (simp; done) | fail))).trans (by (first | (go_simp; done) | fail)); have ESz1 : wSz.cell? ⟨wSy.heap.size, 1, none⟩ = some (.slice none 0 0) := (hcSz _ 1 (by (first | (simp; done) | fail))).trans (by (first | (go_simp; done) | fail)); have FSz0 : wSz.frozen? ⟨wSy.heap.size, 0, none⟩ = false := (hfSz _ 0 (by (first | (simp; done) | fail))).trans (by (first | (go_simp; done) | fail)); have FSz1 : wSz.frozen? ⟨wSy.heap.size, 1, none⟩ = false := (hfSz _ 1 (by (first | (simp; done) | fail))).trans (by (first | (go_simp; done) | fail))) | skip); clear hcSz hfSz hySz) | (go_at_call 28; refine (specFeedbackTransfer_any _ _ _ _ _ _ _ _ _ _ _ _ _ ((S0'.alloc _).arg (by simp; omega) (by omega) HI0.out) ((S0b'.alloc _).arg (by simp; omega) (by omega) KI0.out) ((S1.alloc _).arg (by simp; omega) (by omega) HI1.out) ((S1b.alloc _).arg (by simp; omega) (by omega) KI1.out)).mono ?_; rintro e wSz ⟨ysr, zsr, coder, Ar, cr, Dr, dr, lra, hra, lrb, hrb, rfl, HRr, lenr, lezr, Gr, Kr, qr1, qr2, qr3, qr4, qr5, hbSz⟩; (try simp at qr1); (try simp at qr2); (try simp at qr3); (try simp at qr4); have hSSz := Lib.hid (bx2_call P0 P1 (by assumption) hbSz); obtain ⟨hcSz, hfSz⟩ := bcell hbSz; have hySz := fun b h => Nat.lt_of_lt_of_le (n := b) h hbSz.size; have hzSz := hbSz.size; (try simp at hzSz); have hrr := Lib.hid HRr; clear HRr; (first | (have ESz0 := (hcSz _ 0 (World.block_lt_of_cell? _ _ ESy0)).trans ESy0; have ESz1 := (hcSz _ 1 (World.block_lt_of_cell? _ _ ESy0)).trans ESy1; have FSz0 := (hfSz _ 0 (World.block_lt_of_cell? _ _ ESy0)).trans FSy0; have FSz1 := (hfSz _ 1 (World.block_lt_of_cell? _ _ ESy0)).trans FSy1) | (have ESz0 : wSz.cell? ⟨wSy.heap.size, 0, none⟩ = some (.slice none 0 0) := (hcSz _ 0 (by (first | (simp; done) | fail))).trans (by (first | (go_simp; done) | fail)); have ESz1 : wSz.cell? ⟨wSy.heap.size, 1, none⟩ = some (.slice none 0 0) := (hcSz _ 1 (by (first | (simp; done) | fail))).trans (by (first | (go_simp; done) | fail)); have FSz0 : wSz.frozen? ⟨wSy.heap.size, 0, none⟩ = false := (hfSz _ 0 (by (first | (simp; done) | fail))).trans (by (first | (go_simp; done) | fail)); have FSz1 : wSz.frozen? ⟨wSy.heap.size, 1, none⟩ = false := (hfSz _ 1 (by (first | (simp; done) | fail))).trans (by (first | (go_simp; done) | fail))) | skip); clear hcSz hfSz hySz)))
    all_goals
      go_wp2_with fail
      go_meet
      refine GotT.mk (A := Ar) (c := cr) (D := Dr) (d := dr) (l1 := lra) (h1 := hra) (l2 := lrb) (h2 := hrb) _ hrr.out lenr lezr ?_ ?_ ?_ ?_ ?_ ?_
      · (first | (go_simp; done) | (simp [ESz0, ESz1, FSz0, FSz1, go_sem]; done))
      · (first | (go_simp; done) | (simp [ESz0, ESz1, FSz0, FSz1, go_sem]; done))
      · (first | exact Gr | exact Gr.alloc _ | exact (Gr.setFar (by (try simp) <;> omega) _).setFar (by (try simp) <;> omega) _)
      · (first | exact Kr | exact Kr.alloc _ | exact (Kr.setFar (by (try simp) <;> omega) _).setFar (by (try simp) <;> omega) _)
      · refine ⟨?_, ?_, ?_, ?_, ?_, ?_, ?_, ?_⟩ <;> ((try simp [World.setCell]) <;> omega)
      · (first | exact hSSz.out.1 | exact hSSz.out.1.alloc hSSz.out.1.size _ | exact (hSSz.out.1.setCell (by (try simp) <;> omega) _).setCell (by (try simp) <;> omega) _)
  case rest =>
    obtain ⟨g, ys, zs, code, A, c, D, d, la, ha, lb, hb, rfl, rfl, HR, len, lez, R, G, K, q1, q2, q3, q4, q5, q6, q7, q8, q9, hb3⟩ := hcut
    rename World => w3
    have hr := Lib.hid HR
    clear HR TO0 TO1
    have hz3 := hb3.size
    replace P0 := Lib.hid (P0.out.below hb3 (by omega))
    replace P1 := Lib.hid (P1.out.below hb3 (by omega))
    have B3 := nxt B2 hb3 (by omega)
    clear hb3 B2
    obtain ⟨e0, e1⟩ := P0.out
    obtain ⟨e2, e3⟩ := P1.out
    obtain ⟨e4, e5⟩ := R.out
    go_wp2_with fail
    clear e0 e1 e2 e3 e4 e5
    refine (toTransfer_any _ _ _ _ _ _ _ w.heap.size (HS0.out.below B3 (Nat.le_refl _)) (KS0.out.below B3 (Nat.le_refl _)) (by omega) (by omega) (by omega)).mono ?_
    rintro e w4 ⟨AX0, cX0, DX0, dX0, lX0a, hX0a, lX0b, hX0b, rfl, X0, X0b, qX01, qX02, qX03, qX04, qX05, hb4⟩
    have hz4 := hb4.size
    replace G := G.below hb4 (by omega)
    replace K := K.below hb4 (by omega)
    replace P0 := Lib.hid (P0.out.below hb4 (by omega))
    replace P1 := Lib.hid (P1.out.below hb4 (by omega))
    replace R := Lib.hid (R.out.below hb4 (by omega))
    have B4 := nxt B3 hb4 (by omega)
    clear hb4 B3
    have XX0 := Lib.hid (Bx.new w4 AX0 xs0.length cX0 DX0 ys0.length dX0 27)
    have hb5 : Below w4.heap.size w4 (w4.alloc (.cells #[.slice AX0 xs0.length cX0, .slice DX0 ys0.length dX0] 27)) := (Below.refl _ _).alloc (Nat.le_refl _) _
    have hy5 : w4.heap.size < (w4.alloc (.cells #[.slice AX0 xs0.length cX0, .slice DX0 ys0.length dX0] 27)).heap.size := by simp
    have hz5 := hb5.size
    replace G := G.below hb5 (by omega)
    replace K := K.below hb5 (by omega)
    replace X0 := X0.below hb5 (by omega)
    replace X0b := X0b.below hb5 (by omega)
    replace P0 := Lib.hid (P0.out.below hb5 (by omega))
    replace P1 := Lib.hid (P1.out.below hb5 (by omega))
    replace R := Lib.hid (R.out.below hb5 (by omega))
    have B5 := nxt B4 hb5 (by omega)
    clear hb5 B4
    obtain ⟨e0, e1⟩ := P0.out
    obtain ⟨e2, e3⟩ := P1.out
    obtain ⟨e4, e5⟩ := R.out
    obtain ⟨e6, e7⟩ := XX0.out
    go_wp2_with fail
    clear e0 e1 e2 e3 e4 e5 e6 e7
    generalize (w4.alloc (.cells #[.slice AX0 xs0.length cX0, .slice DX0 ys0.length dX0] 27)) = w5 at *
    refine (toTransfer_any _ _ _ _ _ _ _ w.heap.size (HS1.out.below B5 (Nat.le_refl _)) (KS1.out.below B5 (Nat.le_refl _)) (by omega) (by omega) (by omega)).mono ?_
    rintro e w6 ⟨AX1, cX1, DX1, dX1, lX1a, hX1a, lX1b, hX1b, rfl, X1, X1b, qX11, qX12, qX13, qX14, qX15, hb6⟩
    have hz6 := hb6.size
    replace G := G.below hb6 (by omega)
    replace K := K.below hb6 (by omega)
    replace X0 := X0.below hb6 (by omega)
    replace X0b := X0b.below hb6 (by omega)
    replace P0 := Lib.hid (P0.out.below hb6 (by omega))
    replace P1 := Lib.hid (P1.out.below hb6 (by omega))
    replace R := Lib.hid (R.out.below hb6 (by omega))
    replace XX0 := Lib.hid (XX0.out.below hb6 (by omega))
    have B6 := nxt B5 hb6 (by omega)
    clear hb6 B5
    have XX1 := Lib.hid (Bx.new w6 AX1 xs1.length cX1 DX1 ys1.length dX1 27)
    have hb7 : Below w6.heap.size w6 (w6.alloc (.cells #[.slice AX1 xs1.length cX1, .slice DX1 ys1.length dX1] 27)) := (Below.refl _ _).alloc (Nat.le_refl _) _
    have hy7 : w6.heap.size < (w6.alloc (.cells #[.slice AX1 xs1.length cX1, .slice DX1 ys1.length dX1] 27)).heap.size := by simp
    have hz7 := hb7.size
    replace G := G.below hb7 (by omega)
    replace K := K.below hb7 (by omega)
    replace X0 := X0.below hb7 (by omega)
    replace X0b := X0b.below hb7 (by omega)
    replace X1 := X1.below hb7 (by omega)
    replace X1b := X1b.below hb7 (by omega)
    replace P0 := Lib.hid (P0.out.below hb7 (by omega))
    replace P1 := Lib.hid (P1.out.below hb7 (by omega))
    replace R := Lib.hid (R.out.below hb7 (by omega))
    replace XX0 := Lib.hid (XX0.out.below hb7 (by omega))
    have B7 := nxt B6 hb7 (by omega)
    clear hb7 B6
    obtain ⟨e0, e1⟩ := P0.out
    obtain ⟨e2, e3⟩ := P1.out
    obtain ⟨e4, e5⟩ := R.out
    obtain ⟨e6, e7⟩ := XX0.out
    obtain ⟨e8, e9⟩ := XX1.out
    go_wp2_with fail
    clear e0 e1 e2 e3 e4 e5 e6 e7 e8 e9
    generalize (w6.alloc (.cells #[.slice AX1 xs1.length cX1, .slice DX1 ys1.length dX1] 27)) = w7 at *
    refine (implFeedbackTransfer_any _ _ _ _ _ _ _ _ _ _ _ _ _ (X0.arg (by omega) (by omega) HI0.out) (X0b.arg (by omega) (by omega) KI0.out) (X1.arg (by omega) (by omega) HI1.out) (X1b.arg (by omega) (by omega) KI1.out)).mono ?_
    rintro e w8 ⟨ysi, zsi, codei, Ai, ci, Di, di, lia, hia, lib, hib, rfl, HRi, leni, lezi, Gi, Ki, qi1, qi2, qi3, qi4, qi5, hb8⟩
    have hri := Lib.hid HRi
    clear HRi
    have hz8 := hb8.size
    replace G := G.below hb8 (by omega)
    replace K := K.below hb8 (by omega)
    replace X0 := X0.below hb8 (by omega)
    replace X0b := X0b.below hb8 (by omega)
    replace X1 := X1.below hb8 (by omega)
    replace X1b := X1b.below hb8 (by omega)
    replace P0 := Lib.hid (P0.out.below hb8 (by omega))
    replace P1 := Lib.hid (P1.out.below hb8 (by omega))
    replace R := Lib.hid (R.out.below hb8 (by omega))
    replace XX0 := Lib.hid (XX0.out.below hb8 (by omega))
    replace XX1 := Lib.hid (XX1.out.below hb8 (by omega))
    have B8 := nxt B7 hb8 (by omega)
    clear hb8 B7
    have Ri := Lib.hid (Bx.new w8 Ai ysi.length ci Di zsi.length di 27)
    have hb9 : Below w8.heap.size w8 (w8.alloc (.cells #[.slice Ai ysi.length ci, .slice Di zsi.length di] 27)) := (Below.refl _ _).alloc (Nat.le_refl _) _
    have hy9 : w8.heap.size < (w8.alloc (.cells #[.slice Ai ysi.length ci, .slice Di zsi.length di] 27)).heap.size := by simp
    have hz9 := hb9.size
    replace G := G.below hb9 (by omega)
    replace K := K.below hb9 (by omega)
    replace X0 := X0.below hb9 (by omega)
    replace X0b := X0b.below hb9 (by omega)
    replace X1 := X1.below hb9 (by omega)
    replace X1b := X1b.below hb9 (by omega)
    replace Gi := Gi.below hb9 (by omega)
    replace Ki := Ki.below hb9 (by omega)
    replace P0 := Lib.hid (P0.out.below hb9 (by omega))
    replace P1 := Lib.hid (P1.out.below hb9 (by omega))
    replace R := Lib.hid (R.out.below hb9 (by omega))
    replace XX0 := Lib.hid (XX0.out.below hb9 (by omega))
    replace XX1 := Lib.hid (XX1.out.below hb9 (by omega))
    have B9 := nxt B8 hb9 (by omega)
    clear hb9 B8
    obtain ⟨hpi, rfl⟩ := Prod.mk.inj (hr.out.trans hri.out.symm)
    obtain ⟨rfl, rfl⟩ := Prod.mk.inj hpi
    clear hri
    obtain ⟨e0, e1⟩ := P0.out
    obtain ⟨e2, e3⟩ := P1.out
    obtain ⟨e4, e5⟩ := R.out
    obtain ⟨e6, e7⟩ := XX0.out
    obtain ⟨e8, e9⟩ := XX1.out
    obtain ⟨e10, e11⟩ := Ri.out
    go_wp2_with fail
    clear e0 e1 e2 e3 e4 e5 e6 e7 e8 e9 e10 e11
    generalize (w8.alloc (.cells #[.slice Ai ys.length ci, .slice Di zs.length di] 27)) = w9 at *
    refine (eqTransfer_any _ _ _ _ _ _ _ _ _ _ _ _ _ _ _ Gi.sl Ki.sl G.sl K.sl (by omega) (by omega) (by omega) (by omega) (by omega) (by omega)).mono ?_
    rintro e w10 ⟨rfl, hb10⟩
    have hz10 := hb10.size
    replace G := G.below hb10 (by omega)
    replace K := K.below hb10 (by omega)
    replace X0 := X0.below hb10 (by omega)
    replace X0b := X0b.below hb10 (by omega)
    replace X1 := X1.below hb10 (by omega)
    replace X1b := X1b.below hb10 (by omega)
    replace Gi := Gi.below hb10 (by omega)
    replace Ki := Ki.below hb10 (by omega)
    replace P0 := Lib.hid (P0.out.below hb10 (by omega))
    replace P1 := Lib.hid (P1.out.below hb10 (by omega))
    replace R := Lib.hid (R.out.below hb10 (by omega))
    replace XX0 := Lib.hid (XX0.out.below hb10 (by omega))
    replace XX1 := Lib.hid (XX1.out.below hb10 (by omega))
    replace Ri := Lib.hid (Ri.out.below hb10 (by omega))
    have B10 := nxt B9 hb10 (by omega)
    clear hb10 B9
    obtain ⟨e0, e1⟩ := P0.out
    obtain ⟨e2, e3⟩ := P1.out
    obtain ⟨e4, e5⟩ := R.out
    obtain ⟨e6, e7⟩ := XX0.out
    obtain ⟨e8, e9⟩ := XX1.out
    obtain ⟨e10, e11⟩ := Ri.out
    go_wp2_with fail
    clear e0 e1 e2 e3 e4 e5 e6 e7 e8 e9 e10 e11
    have TO0 : Hid (∀ w', Below w10.heap.size w10 w' ∧ w'.cell? ⟨w4.heap.size, 0, none⟩ = some (.slice AX0 xs0.length cX0) ∧ w'.cell? ⟨w4.heap.size, 1, none⟩ = some (.slice DX0 ys0.length dX0) ∧ w'.cell? ⟨w.heap.size, 0, none⟩ = some (.slice A0 xs0.length c0) ∧ w'.cell? ⟨w.heap.size, 1, none⟩ = some (.slice D0 ys0.length d0) → Calls Try.prog 11 #[.agg #[.slice A0 xs0.length c0, .slice D0 ys0.length d0]] w' (FreshT xs0 ys0 w')) :=
      fun w' hx => toTransfer_any _ _ _ _ _ _ w' w.heap.size (HS0.out.below (nxt B10 hx.1 (by omega)) (Nat.le_refl _)) (KS0.out.below (nxt B10 hx.1 (by omega)) (Nat.le_refl _)) (by have := hx.1.size; omega) (by omega) (by omega)
    go_region_held3 (fun w' => Below w10.heap.size w10 w' ∧ w'.cell? ⟨w4.heap.size, 0, none⟩ = some (.slice AX0 xs0.length cX0) ∧ w'.cell? ⟨w4.heap.size, 1, none⟩ = some (.slice DX0 ys0.length dX0) ∧ w'.cell? ⟨w.heap.size, 0, none⟩ = some (.slice A0 xs0.length c0) ∧ w'.cell? ⟨w.heap.size, 1, none⟩ = some (.slice D0 ys0.length d0))
      ((first | assumption | (refine Hid.out ?_; assumption) | (exact bx2_keep XX0 P0 (Below.drew (Below.refl _ _)))))
      ((first | (go_at_call 11; refine (TO0.out _ (by assumption)).mono ?_; rintro e wt11 ⟨AT0, cT0, DT0, dT0, lT0a, hT0a, lT0b, hT0b, rfl, T0, T0b, qT01, qT02, qT03, qT04, qT05, hbk⟩; have hS11 := Lib.hid (bx2_call XX0 P0 (by assumption) hbk); have hW11 := hS11.out.1; have hzt11 := hW11.size; clear hbk) | (go_at_call 13; refine (eqTransfer_any _ _ _ _ _ _ _ _ _ _ _ _ _ _ _ (X0.below hW11 (by omega)).sl (X0b.below hW11 (by omega)).sl T0.sl T0b.sl (by omega) (by omega) (by omega) (by omega) (by omega) (by omega)).mono ?_; rintro e w11 ⟨rfl, hbe11⟩; have hSe11 := Lib.hid (bx2_call XX0 P0 hS11.out hbe11))))
    have hb11 := nxt hW11 hbe11 (by omega)
    clear T0 T0b hS11 hSe11 hW11 hbe11 TO0
    have hz11 := hb11.size
    replace G := G.below hb11 (by omega)
    replace K := K.below hb11 (by omega)
    replace X0 := X0.below hb11 (by omega)
    replace X0b := X0b.below hb11 (by omega)
    replace X1 := X1.below hb11 (by omega)
    replace X1b := X1b.below hb11 (by omega)
    replace Gi := Gi.below hb11 (by omega)
    replace Ki := Ki.below hb11 (by omega)
    replace P0 := Lib.hid (P0.out.below hb11 (by omega))
    replace P1 := Lib.hid (P1.out.below hb11 (by omega))
    replace R := Lib.hid (R.out.below hb11 (by omega))
    replace XX0 := Lib.hid (XX0.out.below hb11 (by omega))
    replace XX1 := Lib.hid (XX1.out.below hb11 (by omega))
    replace Ri := Lib.hid (Ri.out.below hb11 (by omega))
    have B11 := nxt B10 hb11 (by omega)
    clear hb11 B10
    obtain ⟨e0, e1⟩ := P0.out
    obtain ⟨e2, e3⟩ := P1.out
    obtain ⟨e4, e5⟩ := R.out
    obtain ⟨e6, e7⟩ := XX0.out
    obtain ⟨e8, e9⟩ := XX1.out
    obtain ⟨e10, e11⟩ := Ri.out
    go_wp2_with fail
    clear e0 e1 e2 e3 e4 e5 e6 e7 e8 e9 e10 e11
    have TO1 : Hid (∀ w', Below w11.heap.size w11 w' ∧ w'.cell? ⟨w6.heap.size, 0, none⟩ = some (.slice AX1 xs1.length cX1) ∧ w'.cell? ⟨w6.heap.size, 1, none⟩ = some (.slice DX1 ys1.length dX1) ∧ w'.cell? ⟨w.heap.size + 1, 0, none⟩ = some (.slice A1 xs1.length c1) ∧ w'.cell? ⟨w.heap.size + 1, 1, none⟩ = some (.slice D1 ys1.length d1) → Calls Try.prog 11 #[.agg #[.slice A1 xs1.length c1, .slice D1 ys1.length d1]] w' (FreshT xs1 ys1 w')) :=
      fun w' hx => toTransfer_any _ _ _ _ _ _ w' w.heap.size (HS1.out.below (nxt B11 hx.1 (by omega)) (Nat.le_refl _)) (KS1.out.below (nxt B11 hx.1 (by omega)) (Nat.le_refl _)) (by have := hx.1.size; omega) (by omega) (by omega)
    go_region_held3 (fun w' => Below w11.heap.size w11 w' ∧ w'.cell? ⟨w6.heap.size, 0, none⟩ = some (.slice AX1 xs1.length cX1) ∧ w'.cell? ⟨w6.heap.size, 1, none⟩ = some (.slice DX1 ys1.length dX1) ∧ w'.cell? ⟨w.heap.size + 1, 0, none⟩ = some (.slice A1 xs1.length c1) ∧ w'.cell? ⟨w.heap.size + 1, 1, none⟩ = some (.slice D1 ys1.length d1))
      ((first | assumption | (refine Hid.out ?_; assumption) | (exact bx2_keep XX1 P1 (Below.drew (Below.refl _ _)))))
      ((first | (go_at_call 11; refine (TO1.out _ (by assumption)).mono ?_; rintro e wt12 ⟨AT1, cT1, DT1, dT1, lT1a, hT1a, lT1b, hT1b, rfl, T1, T1b, qT11, qT12, qT13, qT14, qT15, hbk⟩; have hS12 := Lib.hid (bx2_call XX1 P1 (by assumption) hbk); have hW12 := hS12.out.1; have hzt12 := hW12.size; clear hbk) | (go_at_call 13; refine (eqTransfer_any _ _ _ _ _ _ _ _ _ _ _ _ _ _ _ (X1.below hW12 (by omega)).sl (X1b.below hW12 (by omega)).sl T1.sl T1b.sl (by omega) (by omega) (by omega) (by omega) (by omega) (by omega)).mono ?_; rintro e w12 ⟨rfl, hbe12⟩; have hSe12 := Lib.hid (bx2_call XX1 P1 hS12.out hbe12))))
    have hb12 := nxt hW12 hbe12 (by omega)
    clear T1 T1b hS12 hSe12 hW12 hbe12 TO1
    have hz12 := hb12.size
    replace G := G.below hb12 (by omega)
    replace K := K.below hb12 (by omega)
    replace X0 := X0.below hb12 (by omega)
    replace X0b := X0b.below hb12 (by omega)
    replace X1 := X1.below hb12 (by omega)
    replace X1b := X1b.below hb12 (by omega)
    replace Gi := Gi.below hb12 (by omega)
    replace Ki := Ki.below hb12 (by omega)
    replace P0 := Lib.hid (P0.out.below hb12 (by omega))
    replace P1 := Lib.hid (P1.out.below hb12 (by omega))
    replace R := Lib.hid (R.out.below hb12 (by omega))
    replace XX0 := Lib.hid (XX0.out.below hb12 (by omega))
    replace XX1 := Lib.hid (XX1.out.below hb12 (by omega))
    replace Ri := Lib.hid (Ri.out.below hb12 (by omega))
    have B12 := nxt B11 hb12 (by omega)
    clear hb12 B11
    obtain ⟨e0, e1⟩ := P0.out
    obtain ⟨e2, e3⟩ := P1.out
    obtain ⟨e4, e5⟩ := R.out
    obtain ⟨e6, e7⟩ := XX0.out
    obtain ⟨e8, e9⟩ := XX1.out
    obtain ⟨e10, e11⟩ := Ri.out
    go_wp2_with fail
    clear e0 e1 e2 e3 e4 e5 e6 e7 e8 e9 e10 e11
    refine (markTransfer_any _ _ _ _ _ _ _ _ _ _ _ _ X0 X0b (by omega) (by omega) qX05 (by omega) (by omega) (by omega) (by omega)).mono ?_
    rintro e w13 ⟨rfl, zs13, us13, hzl13, hul13, hmk13, hmu13, M13, N13, hon13⟩
    have hz13 := hon13.size
    have HZL13 := Lib.hid hzl13
    have HUL13 := Lib.hid hul13
    have HMK13 := Lib.hid hmk13
    have HMU13 := Lib.hid hmu13
    clear hzl13 hul13 hmk13 hmu13 X0 X0b
    replace G := G.only2 hon13 (by omega) (by omega)
    replace K := K.only2 hon13 (by omega) (by omega)
    replace X1 := X1.only2 hon13 (by omega) (by omega)
    replace X1b := X1b.only2 hon13 (by omega) (by omega)
    replace Gi := Gi.only2 hon13 (by omega) (by omega)
    replace Ki := Ki.only2 hon13 (by omega) (by omega)
    replace P0 := Lib.hid (P0.out.only2 hon13 (by omega) (by omega))
    replace P1 := Lib.hid (P1.out.only2 hon13 (by omega) (by omega))
    replace R := Lib.hid (R.out.only2 hon13 (by omega) (by omega))
    replace XX0 := Lib.hid (XX0.out.only2 hon13 (by omega) (by omega))
    replace XX1 := Lib.hid (XX1.out.only2 hon13 (by omega) (by omega))
    replace Ri := Lib.hid (Ri.out.only2 hon13 (by omega) (by omega))
    have B13 := B12.trans (hon13.below (B := w.heap.size) (by omega) (by omega) (by omega))
    clear hon13 B12
    obtain ⟨e0, e1⟩ := P0.out
    obtain ⟨e2, e3⟩ := P1.out
    obtain ⟨e4, e5⟩ := R.out
    obtain ⟨e6, e7⟩ := XX0.out
    obtain ⟨e8, e9⟩ := XX1.out
    obtain ⟨e10, e11⟩ := Ri.out
    go_wp2_with fail
    clear e0 e1 e2 e3 e4 e5 e6 e7 e8 e9 e10 e11
    refine (markTransfer_any _ _ _ _ _ _ _ _ _ _ _ _ X1 X1b (by omega) (by omega) qX15 (by omega) (by omega) (by omega) (by omega)).mono ?_
    rintro e w14 ⟨rfl, zs14, us14, hzl14, hul14, hmk14, hmu14, M14, N14, hon14⟩
    have hz14 := hon14.size
    have HZL14 := Lib.hid hzl14
    have HUL14 := Lib.hid hul14
    have HMK14 := Lib.hid hmk14
    have HMU14 := Lib.hid hmu14
    clear hzl14 hul14 hmk14 hmu14 X1 X1b
    replace G := G.only2 hon14 (by omega) (by omega)
    replace K := K.only2 hon14 (by omega) (by omega)
    replace Gi := Gi.only2 hon14 (by omega) (by omega)
    replace Ki := Ki.only2 hon14 (by omega) (by omega)
    replace M13 := M13.only2 hon14 (by omega) (by omega)
    replace N13 := N13.only2 hon14 (by omega) (by omega)
    replace P0 := Lib.hid (P0.out.only2 hon14 (by omega) (by omega))
    replace P1 := Lib.hid (P1.out.only2 hon14 (by omega) (by omega))
    replace R := Lib.hid (R.out.only2 hon14 (by omega) (by omega))
    replace XX0 := Lib.hid (XX0.out.only2 hon14 (by omega) (by omega))
    replace XX1 := Lib.hid (XX1.out.only2 hon14 (by omega) (by omega))
    replace Ri := Lib.hid (Ri.out.only2 hon14 (by omega) (by omega))
    have B14 := B13.trans (hon14.below (B := w.heap.size) (by omega) (by omega) (by omega))
    clear hon14 B13
    obtain ⟨e0, e1⟩ := P0.out
    obtain ⟨e2, e3⟩ := P1.out
    obtain ⟨e4, e5⟩ := R.out
    obtain ⟨e6, e7⟩ := XX0.out
    obtain ⟨e8, e9⟩ := XX1.out
    obtain ⟨e10, e11⟩ := Ri.out
    go_wp2_with fail
    clear e0 e1 e2 e3 e4 e5 e6 e7 e8 e9 e10 e11
    refine (eqTransfer_any _ _ _ _ _ _ _ _ _ _ _ _ _ _ _ Gi.sl Ki.sl G.sl K.sl (by omega) (by omega) (by omega) (by omega) (by omega) (by omega)).mono ?_
    rintro e w15 ⟨rfl, hb15⟩
    have hz15 := hb15.size
    replace G := G.below hb15 (by omega)
    replace K := K.below hb15 (by omega)
    replace Gi := Gi.below hb15 (by omega)
    replace Ki := Ki.below hb15 (by omega)
    replace M13 := M13.below hb15 (by omega)
    replace N13 := N13.below hb15 (by omega)
    replace M14 := M14.below hb15 (by omega)
    replace N14 := N14.below hb15 (by omega)
    replace P0 := Lib.hid (P0.out.below hb15 (by omega))
    replace P1 := Lib.hid (P1.out.below hb15 (by omega))
    replace R := Lib.hid (R.out.below hb15 (by omega))
    replace XX0 := Lib.hid (XX0.out.below hb15 (by omega))
    replace XX1 := Lib.hid (XX1.out.below hb15 (by omega))
    replace Ri := Lib.hid (Ri.out.below hb15 (by omega))
    have B15 := nxt B14 hb15 (by omega)
    clear hb15 B14
    obtain ⟨e0, e1⟩ := P0.out
    obtain ⟨e2, e3⟩ := P1.out
    obtain ⟨e4, e5⟩ := R.out
    obtain ⟨e6, e7⟩ := XX0.out
    obtain ⟨e8, e9⟩ := XX1.out
    obtain ⟨e10, e11⟩ := Ri.out
    go_wp2_with fail
    clear e0 e1 e2 e3 e4 e5 e6 e7 e8 e9 e10 e11
    refine (markTransfer_any _ _ _ _ _ _ _ _ _ _ _ _ Gi Ki (by omega) (by omega) qi5 (by omega) (by omega) (by omega) (by omega)).mono ?_
    rintro e w16 ⟨rfl, zs16, us16, hzl16, hul16, hmk16, hmu16, M16, N16, hon16⟩
    have hz16 := hon16.size
    have HZL16 := Lib.hid hzl16
    have HUL16 := Lib.hid hul16
    have HMK16 := Lib.hid hmk16
    have HMU16 := Lib.hid hmu16
    clear hzl16 hul16 hmk16 hmu16 Gi Ki
    replace G := G.only2 hon16 (by omega) (by omega)
    replace K := K.only2 hon16 (by omega) (by omega)
    replace M13 := M13.only2 hon16 (by omega) (by omega)
    replace N13 := N13.only2 hon16 (by omega) (by omega)
    replace M14 := M14.only2 hon16 (by omega) (by omega)
    replace N14 := N14.only2 hon16 (by omega) (by omega)
    replace P0 := Lib.hid (P0.out.only2 hon16 (by omega) (by omega))
    replace P1 := Lib.hid (P1.out.only2 hon16 (by omega) (by omega))
    replace R := Lib.hid (R.out.only2 hon16 (by omega) (by omega))
    replace XX0 := Lib.hid (XX0.out.only2 hon16 (by omega) (by omega))
    replace XX1 := Lib.hid (XX1.out.only2 hon16 (by omega) (by omega))
    replace Ri := Lib.hid (Ri.out.only2 hon16 (by omega) (by omega))
    have B16 := B15.trans (hon16.below (B := w.heap.size) (by omega) (by omega) (by omega))
    clear hon16 B15
    obtain ⟨e0, e1⟩ := P0.out
    obtain ⟨e2, e3⟩ := P1.out
    obtain ⟨e4, e5⟩ := R.out
    obtain ⟨e6, e7⟩ := XX0.out
    obtain ⟨e8, e9⟩ := XX1.out
    obtain ⟨e10, e11⟩ := Ri.out
    go_wp2_with fail
    clear e0 e1 e2 e3 e4 e5 e6 e7 e8 e9 e10 e11
    refine (heldTransfer_any _ _ _ _ HZL16.out _ _ _ _ HUL16.out _ _ _ _ M16.sl N16.sl (by omega) (by omega) HMK16.out HMU16.out (by omega) (by omega) (by omega) (by omega)).mono ?_
    rintro e w17 ⟨rfl, hb17⟩
    have hz17 := hb17.size
    replace G := G.below hb17 (by omega)
    replace K := K.below hb17 (by omega)
    replace M13 := M13.below hb17 (by omega)
    replace N13 := N13.below hb17 (by omega)
    replace M14 := M14.below hb17 (by omega)
    replace N14 := N14.below hb17 (by omega)
    replace M16 := M16.below hb17 (by omega)
    replace N16 := N16.below hb17 (by omega)
    replace P0 := Lib.hid (P0.out.below hb17 (by omega))
    replace P1 := Lib.hid (P1.out.below hb17 (by omega))
    replace R := Lib.hid (R.out.below hb17 (by omega))
    replace XX0 := Lib.hid (XX0.out.below hb17 (by omega))
    replace XX1 := Lib.hid (XX1.out.below hb17 (by omega))
    replace Ri := Lib.hid (Ri.out.below hb17 (by omega))
    have B17 := nxt B16 hb17 (by omega)
    clear hb17 B16
    go_upto_region 31 with fail
    have TO0 : Hid (∀ w', Below w17.heap.size w17 w' ∧ w'.cell? ⟨w.heap.size, 0, none⟩ = some (.slice A0 xs0.length c0) ∧ w'.cell? ⟨w.heap.size, 1, none⟩ = some (.slice D0 ys0.length d0) ∧ w'.cell? ⟨w.heap.size + 1, 0, none⟩ = some (.slice A1 xs1.length c1) ∧ w'.cell? ⟨w.heap.size + 1, 1, none⟩ = some (.slice D1 ys1.length d1) → Calls Try.prog 11 #[.agg #[.slice A0 xs0.length c0, .slice D0 ys0.length d0]] w' (FreshT xs0 ys0 w')) :=
      fun w' hx => toTransfer_any _ _ _ _ _ _ w' w.heap.size (HS0.out.below (nxt B17 hx.1 (by omega)) (Nat.le_refl _)) (KS0.out.below (nxt B17 hx.1 (by omega)) (Nat.le_refl _)) (by have := hx.1.size; omega) (by omega) (by omega)
    have TO1 : Hid (∀ w', Below w17.heap.size w17 w' ∧ w'.cell? ⟨w.heap.size, 0, none⟩ = some (.slice A0 xs0.length c0) ∧ w'.cell? ⟨w.heap.size, 1, none⟩ = some (.slice D0 ys0.length d0) ∧ w'.cell? ⟨w.heap.size + 1, 0, none⟩ = some (.slice A1 xs1.length c1) ∧ w'.cell? ⟨w.heap.size + 1, 1, none⟩ = some (.slice D1 ys1.length d1) → Calls Try.prog 11 #[.agg #[.slice A1 xs1.length c1, .slice D1 ys1.length d1]] w' (FreshT xs1 ys1 w')) :=
      fun w' hx => toTransfer_any _ _ _ _ _ _ w' w.heap.size (HS1.out.below (nxt B17 hx.1 (by omega)) (Nat.le_refl _)) (KS1.out.below (nxt B17 hx.1 (by omega)) (Nat.le_refl _)) (by have := hx.1.size; omega) (by omega) (by omega)
    go_cut [15, 16] (fun s t wx => GotT w17 (feedbackOf xs0 ys0 xs1 ys1) s t wx)
    case first =>
      go_region_held3 (fun w' => Below w17.heap.size w17 w' ∧ w'.cell? ⟨w.heap.size, 0, none⟩ = some (.slice A0 xs0.length c0) ∧ w'.cell? ⟨w.heap.size, 1, none⟩ = some (.slice D0 ys0.length d0) ∧ w'.cell? ⟨w.heap.size + 1, 0, none⟩ = some (.slice A1 xs1.length c1) ∧ w'.cell? ⟨w.heap.size + 1, 1, none⟩ = some (.slice D1 ys1.length d1))
        ((first | assumption | (refine Hid.out ?_; assumption) | (exact bx2_keep P0 P1 (Below.drew (Below.refl _ _))) | (exact bx2_keep P0 P1 (Below.drew (Below.alloc (Below.refl _ _) (Nat.le_refl _) _))) | (refine bx2_alloc P0 P1 ?_ _; (first | assumption | (refine Hid.out ?_; assumption))) | (refine bx2_set P0 P1 (bx2_set P0 P1 ?_ _ _ ?_) _ _ ?_; ((first | assumption | (refine Hid.out ?_; assumption))); ((try simp) <;> omega); ((try simp) <;> omega)) | (refine bx2_set P0 P1 ?_ _ _ ?_; ((first | assumption | (refine Hid.out ?_; assumption))); ((try simp) <;> omega))))
        ((first | (go_at_call_of 11 (Value.agg #[.slice A0 xs0.length c0, .slice D0 ys0.length d0]); refine (TO0.out _ (by assumption)).mono ?_; rintro e wYx ⟨AY0, cY0, DY0, dY0, lY0a, hY0a, lY0b, hY0b, rfl, Y0, Y0b, qY01, qY02, qY03, qY04, qY05, hbYx⟩; (try simp at qY01); (try simp at qY02); (try simp at qY03); (try simp at qY04); have hSYx := Lib.hid (bx2_call P0 P1 (by assumption) hbYx); obtain ⟨hcYx, hfYx⟩ := bcell hbYx; have hyYx := fun b h => Nat.lt_of_lt_of_le (n := b) h hbYx.size; have hzYx := hbYx.size; (try simp at hzYx); (first | (have EYx0 : wYx.cell? ⟨w17.heap.size, 0, none⟩ = some (.slice none 0 0) := (hcYx _ 0 (by (first | (simp; done) | fail))).trans (by (first | (go_simp; done) | fail)); have EYx1 : wYx.cell? ⟨w17.heap.size, 1, none⟩ = some (.slice none 0 0) := (hcYx _ 1 (by (first | (simp; done) | fail))).trans (by (first | (go_simp; done) | fail)); have FYx0 : wYx.frozen? ⟨w17.heap.size, 0, none⟩ = false := (hfYx _ 0 (by (first | (simp; done) | fail))).trans (by (first | (go_simp; done) | fail)); have FYx1 : wYx.frozen? ⟨w17.heap.size, 1, none⟩ = false := (hfYx _ 1 (by (first | (simp; done) | fail))).trans (by (first | (go_simp; done) | fail))) | skip); clear hcYx hfYx hyYx; clear hbYx) | (go_at_call_of 11 (Value.agg #[.slice A1 xs1.length c1, .slice D1 ys1.length d1]); refine (TO1.out _ (by assumption)).mono ?_; rintro e wYy ⟨AY1, cY1, DY1, dY1, lY1a, hY1a, lY1b, hY1b, rfl, Y1, Y1b, qY11, qY12, qY13, qY14, qY15, hbYy⟩; (try simp at qY11); (try simp at qY12); (try simp at qY13); (try simp at qY14); have hSYy := Lib.hid (bx2_call P0 P1 (by assumption) hbYy); obtain ⟨hcYy, hfYy⟩ := bcell hbYy; have hyYy := fun b h => Nat.lt_of_lt_of_le (n := b) h hbYy.size; have hzYy := hbYy.size; (try simp at hzYy); have Y0' : Own wYy lY0a hY0a AY0 cY0 xs0 := (by (first | exact Y0.below hbYy (by (try simp) <;> omega) | exact (Y0.alloc _).below hbYy (by (try simp) <;> omega))); have Y0b' : Own wYy lY0b hY0b DY0 dY0 ys0 := (by (first | exact Y0b.below hbYy (by (try simp) <;> omega) | exact (Y0b.alloc _).below hbYy (by (try simp) <;> omega))); (first | (have EYy0 := (hcYy _ 0 (World.block_lt_of_cell? _ _ EYx0)).trans EYx0; have EYy1 := (hcYy _ 1 (World.block_lt_of_cell? _ _ EYx0)).trans EYx1; have FYy0 := (hfYy _ 0 (World.block_lt_of_cell? _ _ EYx0)).trans FYx0; have FYy1 := (hfYy _ 1 (World.block_lt_of_cell? _ _ EYx0)).trans FYx1) | (have EYy0 : wYy.cell? ⟨wYx.heap.size, 0, none⟩ = some (.slice none 0 0) := (hcYy _ 0 (by (first | (simp; done) | fail))).trans (by (first | (go_simp; done) | fail)); have EYy1 : wYy.cell? ⟨wYx.heap.size, 1, none⟩ = some (.slice none 0 0) := (hcYy _ 1 (by (first | (simp; done) | fail))).trans (by (first | (go_simp; done) | fail)); have FYy0 : wYy.frozen? ⟨wYx.heap.size, 0, none⟩ = false := (hfYy _ 0 (by (first | (simp; done) | fail))).trans (by (first | (go_simp; done) | fail)); have FYy1 : wYy.frozen? ⟨wYx.heap.size, 1, none⟩ = false := (hfYy _ 1 (by (first | (simp; done) | fail))).trans (by (first | (go_simp; done) | fail))) | skip); clear hcYy hfYy hyYy; clear hbYy) | (go_at_call 29; refine (implFeedbackTransfer_any _ _ _ _ _ _ _ _ _ _ _ _ _ (Y0'.arg (by omega) (by omega) HI0.out) (Y0b'.arg (by omega) (by omega) KI0.out) (Y1.arg (by omega) (by omega) HI1.out) (Y1b.arg (by omega) (by omega) KI1.out)).mono ?_; rintro e wYz ⟨ysjr, zsjr, codejr, Ajr, cjr, Djr, djr, ljra, hjra, ljrb, hjrb, rfl, HRjr, lenjr, lezjr, Gjr, Kjr, qjr1, qjr2, qjr3, qjr4, qjr5, hbYz⟩; (try simp at qjr1); (try simp at qjr2); (try simp at qjr3); (try simp at qjr4); have hSYz := Lib.hid (bx2_call P0 P1 (by assumption) hbYz); obtain ⟨hcYz, hfYz⟩ := bcell hbYz; have hyYz := fun b h => Nat.lt_of_lt_of_le (n := b) h hbYz.size; have hzYz := hbYz.size; (try simp at hzYz); have hrjr := Lib.hid HRjr; clear HRjr; (first | (have EYz0 := (hcYz _ 0 (World.block_lt_of_cell? _ _ EYy0)).trans EYy0; have EYz1 := (hcYz _ 1 (World.block_lt_of_cell? _ _ EYy0)).trans EYy1; have FYz0 := (hfYz _ 0 (World.block_lt_of_cell? _ _ EYy0)).trans FYy0; have FYz1 := (hfYz _ 1 (World.block_lt_of_cell? _ _ EYy0)).trans FYy1) | (have EYz0 : wYz.cell? ⟨wYy.heap.size, 0, none⟩ = some (.slice none 0 0) := (hcYz _ 0 (by (first | (simp; done) | fail))).trans (by (first | (go_simp; done) | fail)); have EYz1 : wYz.cell? ⟨wYy.heap.size, 1, none⟩ = some (.slice none 0 0) := (hcYz _ 1 (by (first | (simp; done) | fail))).trans (by (first | (go_simp; done) | fail)); have FYz0 : wYz.frozen? ⟨wYy.heap.size, 0, none⟩ = false := (hfYz _ 0 (by (first | (simp; done) | fail))).trans (by (first | (go_simp; done) | fail)); have FYz1 : wYz.frozen? ⟨wYy.heap.size, 1, none⟩ = false := (hfYz _ 1 (by (first | (simp; done) | fail))).trans (by (first | (go_simp; done) | fail))) | skip); clear hcYz hfYz hyYz) | (go_at_call 29; refine (implFeedbackTransfer_any _ _ _ _ _ _ _ _ _ _ _ _ _ ((Y0'.alloc _).arg (by simp; omega) (by omega) HI0.out) ((Y0b'.alloc _).arg (by simp; omega) (by omega) KI0.out) ((Y1.alloc _).arg (by simp; omega) (by omega) HI1.out) ((Y1b.alloc _).arg (by simp; omega) (by omega) KI1.out)).mono ?_; rintro e wYz ⟨ysjr, zsjr, codejr, Ajr, cjr, Djr, djr, ljra, hjra, ljrb, hjrb, rfl, HRjr, lenjr, lezjr, Gjr, Kjr, qjr1, qjr2, qjr3, qjr4, qjr5, hbYz⟩; (try simp at qjr1); (try simp at qjr2); (try simp at qjr3); (try simp at qjr4); have hSYz := Lib.hid (bx2_call P0 P1 (by assumption) hbYz); obtain ⟨hcYz, hfYz⟩ := bcell hbYz; have hyYz := fun b h => Nat.lt_of_lt_of_le (n := b) h hbYz.size; have hzYz := hbYz.size; (try simp at hzYz); have hrjr := Lib.hid HRjr; clear HRjr; (first | (have EYz0 := (hcYz _ 0 (World.block_lt_of_cell? _ _ EYy0)).trans EYy0; have EYz1 := (hcYz _ 1 (World.block_lt_of_cell? _ _ EYy0)).trans EYy1; have FYz0 := (hfYz _ 0 (World.block_lt_of_cell? _ _ EYy0)).trans FYy0; have FYz1 := (hfYz _ 1 (World.block_lt_of_cell? _ _ EYy0)).trans FYy1) | (have EYz0 : wYz.cell? ⟨wYy.heap.size, 0, none⟩ = some (.slice none 0 0) := (hcYz _ 0 (by (first | (simp; done) | fail))).trans (by (first | (go_simp; done) | fail)); have EYz1 : wYz.cell? ⟨wYy.heap.size, 1, none⟩ = some (.slice none 0 0) := (hcYz _ 1 (by (first | (simp; done) | fail))).trans (by (first | (go_simp; done) | fail)); have FYz0 : wYz.frozen? ⟨wYy.heap.size, 0, none⟩ = false := (hfYz _ 0 (by (first | (simp; done) | fail))).trans (by (first | (go_simp; done) | fail)); have FYz1 : wYz.frozen? ⟨wYy.heap.size, 1, none⟩ = false := (hfYz _ 1 (by (first | (simp; done) | fail))).trans (by (first | (go_simp; done) | fail))) | skip); clear hcYz hfYz hyYz)))
      all_goals
        go_wp2_with fail
        go_meet
        refine GotT.mk (A := Ajr) (c := cjr) (D := Djr) (d := djr) (l1 := ljra) (h1 := hjra) (l2 := ljrb) (h2 := hjrb) _ hrjr.out lenjr lezjr ?_ ?_ ?_ ?_ ?_ ?_
        · (first | (go_simp; done) | (simp [EYz0, EYz1, FYz0, FYz1, go_sem]; done))
        · (first | (go_simp; done) | (simp [EYz0, EYz1, FYz0, FYz1, go_sem]; done))
        · (first | exact Gjr | exact Gjr.alloc _ | exact (Gjr.setFar (by (try simp) <;> omega) _).setFar (by (try simp) <;> omega) _)
        · (first | exact Kjr | exact Kjr.alloc _ | exact (Kjr.setFar (by (try simp) <;> omega) _).setFar (by (try simp) <;> omega) _)
        · refine ⟨?_, ?_, ?_, ?_, ?_, ?_, ?_, ?_⟩ <;> ((try simp [World.setCell]) <;> omega)
        · (first | exact hSYz.out.1 | exact hSYz.out.1.alloc hSYz.out.1.size _ | exact (hSYz.out.1.setCell (by (try simp) <;> omega) _).setCell (by (try simp) <;> omega) _)
    case rest =>
      obtain ⟨gj, ysj, zsj, codej, Aj, cj, Dj, dj, lja, hja, ljb, hjb, rfl, rfl, HRj, lenj, lezj, Rj, Gj, Kj, qj1, qj2, qj3, qj4, qj5, qj6, qj7, qj8, qj9, hb18⟩ := hcut
      rename World => w18
      have hrj := Lib.hid HRj
      clear HRj TO0 TO1
      have hz18 := hb18.size
      replace G := G.below hb18 (by omega)
      replace K := K.below hb18 (by omega)
      replace M13 := M13.below hb18 (by omega)
      replace N13 := N13.below hb18 (by omega)
      replace M14 := M14.below hb18 (by omega)
      replace N14 := N14.below hb18 (by omega)
      replace M16 := M16.below hb18 (by omega)
      replace N16 := N16.below hb18 (by omega)
      replace P0 := Lib.hid (P0.out.below hb18 (by omega))
      replace P1 := Lib.hid (P1.out.below hb18 (by omega))
      replace R := Lib.hid (R.out.below hb18 (by omega))
      replace XX0 := Lib.hid (XX0.out.below hb18 (by omega))
      replace XX1 := Lib.hid (XX1.out.below hb18 (by omega))
      replace Ri := Lib.hid (Ri.out.below hb18 (by omega))
      have B18 := nxt B17 hb18 (by omega)
      clear hb18 B17
      obtain ⟨hpj, rfl⟩ := Prod.mk.inj (hr.out.trans hrj.out.symm)
      obtain ⟨rfl, rfl⟩ := Prod.mk.inj hpj
      clear hrj
      obtain ⟨e0, e1⟩ := P0.out
      obtain ⟨e2, e3⟩ := P1.out
      obtain ⟨e4, e5⟩ := R.out
      obtain ⟨e6, e7⟩ := XX0.out
      obtain ⟨e8, e9⟩ := XX1.out
      obtain ⟨e10, e11⟩ := Ri.out
      obtain ⟨e12, e13⟩ := Rj.out
      go_wp2_with fail
      clear e0 e1 e2 e3 e4 e5 e6 e7 e8 e9 e10 e11 e12 e13
      refine (eqTransfer_any _ _ _ _ _ _ _ _ _ _ _ _ _ _ _ Gj.sl Kj.sl G.sl K.sl (by omega) (by omega) (by omega) (by omega) (by omega) (by omega)).mono ?_
      rintro e w19 ⟨rfl, hb19⟩
      have hz19 := hb19.size
      replace G := G.below hb19 (by omega)
      replace K := K.below hb19 (by omega)
      replace M13 := M13.below hb19 (by omega)
      replace N13 := N13.below hb19 (by omega)
      replace M14 := M14.below hb19 (by omega)
      replace N14 := N14.below hb19 (by omega)
      replace M16 := M16.below hb19 (by omega)
      replace N16 := N16.below hb19 (by omega)
      replace Gj := Gj.below hb19 (by omega)
      replace Kj := Kj.below hb19 (by omega)
      replace P0 := Lib.hid (P0.out.below hb19 (by omega))
      replace P1 := Lib.hid (P1.out.below hb19 (by omega))
      replace R := Lib.hid (R.out.below hb19 (by omega))
      replace XX0 := Lib.hid (XX0.out.below hb19 (by omega))
      replace XX1 := Lib.hid (XX1.out.below hb19 (by omega))
      replace Ri := Lib.hid (Ri.out.below hb19 (by omega))
      replace Rj := Lib.hid (Rj.out.below hb19 (by omega))
      have B19 := nxt B18 hb19 (by omega)
      clear hb19 B18
      obtain ⟨e0, e1⟩ := P0.out
      obtain ⟨e2, e3⟩ := P1.out
      obtain ⟨e4, e5⟩ := R.out
      obtain ⟨e6, e7⟩ := XX0.out
      obtain ⟨e8, e9⟩ := XX1.out
      obtain ⟨e10, e11⟩ := Ri.out
      obtain ⟨e12, e13⟩ := Rj.out
      go_wp2_with fail
      clear e0 e1 e2 e3 e4 e5 e6 e7 e8 e9 e10 e11 e12 e13
      refine (heldTransfer_any _ _ _ _ HZL16.out _ _ _ _ HUL16.out _ _ _ _ M16.sl N16.sl (by omega) (by omega) HMK16.out HMU16.out (by omega) (by omega) (by omega) (by omega)).mono ?_
      rintro e w20 ⟨rfl, hb20⟩
      have hz20 := hb20.size
      replace G := G.below hb20 (by omega)
      replace K := K.below hb20 (by omega)
      replace M13 := M13.below hb20 (by omega)
      replace N13 := N13.below hb20 (by omega)
      replace M14 := M14.below hb20 (by omega)
      replace N14 := N14.below hb20 (by omega)
      replace M16 := M16.below hb20 (by omega)
      replace N16 := N16.below hb20 (by omega)
      replace Gj := Gj.below hb20 (by omega)
      replace Kj := Kj.below hb20 (by omega)
      replace P0 := Lib.hid (P0.out.below hb20 (by omega))
      replace P1 := Lib.hid (P1.out.below hb20 (by omega))
      replace R := Lib.hid (R.out.below hb20 (by omega))
      replace XX0 := Lib.hid (XX0.out.below hb20 (by omega))
      replace XX1 := Lib.hid (XX1.out.below hb20 (by omega))
      replace Ri := Lib.hid (Ri.out.below hb20 (by omega))
      replace Rj := Lib.hid (Rj.out.below hb20 (by omega))
      have B20 := nxt B19 hb20 (by omega)
      clear hb20 B19
      obtain ⟨e0, e1⟩ := P0.out
      obtain ⟨e2, e3⟩ := P1.out
      obtain ⟨e4, e5⟩ := R.out
      obtain ⟨e6, e7⟩ := XX0.out
      obtain ⟨e8, e9⟩ := XX1.out
      obtain ⟨e10, e11⟩ := Ri.out
      obtain ⟨e12, e13⟩ := Rj.out
      go_wp2
      go_ret
      exact ⟨rfl, B20⟩

end Go.Proofs.Ytfgdkecmhgkpfaa
