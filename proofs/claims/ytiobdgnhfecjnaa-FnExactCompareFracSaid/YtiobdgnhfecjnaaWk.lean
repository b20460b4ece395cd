/- The order of two fractions: walks and the law. -/
import Derived.Test.YtiobdgnhfecjnaaWi
namespace Go.Proofs.Ytiobdgnhfecjnaa
open Go.RowKit
set_option linter.unusedVariables false

theorem cmp_lt {x y : Int} (h : x < y) : (-1 : Int) = cmpF x y := by simp [cmpF, h]
theorem cmp_gt {x y : Int} (h : y < x) : (1 : Int) = cmpF x y := by unfold cmpF; rw [if_neg (by omega), if_pos h]
theorem cmp_eq {x y : Int} (h1 : ¬ x < y) (h2 : ¬ y < x) : (0 : Int) = cmpF x y := by simp [cmpF, h1, h2]
def cmR (g : Bool) (x y : Int) : Int := if g then cmpF x y else 0
theorem cmR_no (x y : Int) : (0 : Int) = cmR false x y := rfl
theorem cmR_yes (x y : Int) : cmpF x y = cmR true x y := rfl

set_option maxHeartbeats 400000 in
theorem compare__any (a b c d : Int) (w : World) (h1 : okF a b = true) (h2 : okF c d = true) :
    Calls Try.prog 39 #[.agg #[.int .i64 a, .int .i64 b], .agg #[.int .i64 c, .int .i64 d]] w fun e w' => e = .returned (.int .i64 (cmpF (a * d) (c * b))) ∧ Below w.heap.size w w' := by
  obtain ⟨b1, b2, a1, a2, -⟩ := okF_inv h1
  obtain ⟨d1, d2, c1, c2, -⟩ := okF_inv h2
  obtain ⟨p1, p2⟩ := prod_in a1 a2 d1 d2
  obtain ⟨q1, q2⟩ := prod_in c1 c2 b1 b2
  clear h1 h2
  by_cases hlt : a * d < c * b
  · have H := Lib.hid (cmp_lt hlt)
    have h3 : a * d - c * b < 0 := by omega
    go_enter Try.func39, Try.ntmps39
    go_wp2
    go_ret
    exact ⟨ret_int H.out, by (repeat (first | exact Below.refl _ _ | assumption | refine Below.setCell ?_ (by (try simp) <;> omega) _ | refine Below.alloc ?_ (by (try simp) <;> omega) _ | refine below_drewN_ ?_ | refine Below.drew ?_))⟩
  · by_cases hgt : c * b < a * d
    · have H := Lib.hid (cmp_gt hgt)
      have h3 : 0 < a * d - c * b := by omega
      go_enter Try.func39, Try.ntmps39
      go_wp2
      go_ret
      exact ⟨ret_int H.out, by (repeat (first | exact Below.refl _ _ | assumption | refine Below.setCell ?_ (by (try simp) <;> omega) _ | refine Below.alloc ?_ (by (try simp) <;> omega) _ | refine below_drewN_ ?_ | refine Below.drew ?_))⟩
    · have H := Lib.hid (cmp_eq hlt hgt)
      have h3 : 0 ≤ a * d - c * b := by omega
      have h4 : a * d - c * b ≤ 0 := by omega
      go_enter Try.func39, Try.ntmps39
      go_wp2
      go_ret
      exact ⟨ret_int H.out, by (repeat (first | exact Below.refl _ _ | assumption | refine Below.setCell ?_ (by (try simp) <;> omega) _ | refine Below.alloc ?_ (by (try simp) <;> omega) _ | refine below_drewN_ ?_ | refine Below.drew ?_))⟩
set_option maxHeartbeats 400000 in
theorem l02Compare_any (a b c d : Int) (w : World) (h1 : okF a b = true) (h2 : okF c d = true) :
    Calls Try.prog 37 #[.agg #[.int .i64 a, .int .i64 b], .agg #[.int .i64 c, .int .i64 d]] w fun e w' => e = .returned (.int .i64 (cmpF (a * d) (c * b))) ∧ Below w.heap.size w w' := by
  obtain ⟨b1, b2, a1, a2, -⟩ := okF_inv h1
  obtain ⟨d1, d2, c1, c2, -⟩ := okF_inv h2
  obtain ⟨p1, p2⟩ := prod_in a1 a2 d1 d2
  obtain ⟨q1, q2⟩ := prod_in c1 c2 b1 b2
  clear h1 h2
  by_cases hlt : a * d < c * b
  · have H := Lib.hid (cmp_lt hlt)
    have h3 : a * d - c * b < 0 := by omega
    go_enter Try.func37, Try.ntmps37
    go_wp2
    go_ret
    exact ⟨ret_int H.out, by (repeat (first | exact Below.refl _ _ | assumption | refine Below.setCell ?_ (by (try simp) <;> omega) _ | refine Below.alloc ?_ (by (try simp) <;> omega) _ | refine below_drewN_ ?_ | refine Below.drew ?_))⟩
  · by_cases hgt : c * b < a * d
    · have H := Lib.hid (cmp_gt hgt)
      have h3 : 0 < a * d - c * b := by omega
      go_enter Try.func37, Try.ntmps37
      go_wp2
      go_ret
      exact ⟨ret_int H.out, by (repeat (first | exact Below.refl _ _ | assumption | refine Below.setCell ?_ (by (try simp) <;> omega) _ | refine Below.alloc ?_ (by (try simp) <;> omega) _ | refine below_drewN_ ?_ | refine Below.drew ?_))⟩
    · have H := Lib.hid (cmp_eq hlt hgt)
      have h3 : 0 ≤ a * d - c * b := by omega
      have h4 : a * d - c * b ≤ 0 := by omega
      go_enter Try.func37, Try.ntmps37
      go_wp2
      go_ret
      exact ⟨ret_int H.out, by (repeat (first | exact Below.refl _ _ | assumption | refine Below.setCell ?_ (by (try simp) <;> omega) _ | refine Below.alloc ?_ (by (try simp) <;> omega) _ | refine below_drewN_ ?_ | refine Below.drew ?_))⟩
set_option maxHeartbeats 1000000 in
theorem implCompare_any (a b c d : Int) (w : World) (ha : I64 a) (hb : I64 b) (hc : I64 c) (hd : I64 d) :
    Calls Try.prog 14 #[.agg #[.int .i64 a, .int .i64 b], .agg #[.int .i64 c, .int .i64 d]] w fun e w' => e = .returned (.int .i64 (cmR (okF2 a b c d) (a * d) (c * b))) ∧ Below w.heap.size w w' := by
  cases g : okF2 a b c d
  · have G := Lib.hid g
    clear g
    go_enter Try.func14, Try.ntmps14
    go_wp2_with fail
    refine (areFracs2_any a b c d _ _ (by simp) ha hb hc hd (by go_simp) (by go_simp) (by go_simp) (by go_simp)).mono ?_
    rw [G.out]
    rintro e w1 ⟨rfl, hb1⟩
    go_wp2
    go_ret
    exact ⟨ret_int (cmR_no _ _), nxt (by (repeat (first | exact Below.refl _ _ | assumption | refine Below.setCell ?_ (by (try simp) <;> omega) _ | refine Below.alloc ?_ (by (try simp) <;> omega) _ | refine below_drewN_ ?_ | refine Below.drew ?_))) hb1 (by (try simp) <;> omega)⟩
  · obtain ⟨o1, o2⟩ := okF2_inv g
    have G := Lib.hid g
    clear g
    go_enter Try.func14, Try.ntmps14
    go_wp2_with fail
    refine (areFracs2_any a b c d _ _ (by simp) ha hb hc hd (by go_simp) (by go_simp) (by go_simp) (by go_simp)).mono ?_
    rw [G.out]
    rintro e w1 ⟨rfl, hb1⟩
    obtain ⟨x1, x2⟩ := bcell hb1
    have hz := hb1.size
    simp at hz
    have ea : w1.cell? ⟨w.heap.size, 0, none⟩ = some (.int .i64 a) := (x1 _ _ (by (try simp) <;> omega)).trans (by go_simp)
    have eb : w1.cell? ⟨w.heap.size, 1, none⟩ = some (.int .i64 b) := (x1 _ _ (by (try simp) <;> omega)).trans (by go_simp)
    have ec : w1.cell? ⟨w.heap.size + 1, 0, none⟩ = some (.int .i64 c) := (x1 _ _ (by (try simp) <;> omega)).trans (by go_simp)
    have ed : w1.cell? ⟨w.heap.size + 1, 1, none⟩ = some (.int .i64 d) := (x1 _ _ (by (try simp) <;> omega)).trans (by go_simp)
    clear x1 x2
    go_wp2_with fail
    refine (compare__any a b c d _ o1 o2).mono ?_
    rintro e w2 ⟨rfl, hb2⟩
    go_wp2
    go_ret
    exact ⟨ret_int (cmR_yes _ _), nxt (nxt (by (repeat (first | exact Below.refl _ _ | assumption | refine Below.setCell ?_ (by (try simp) <;> omega) _ | refine Below.alloc ?_ (by (try simp) <;> omega) _ | refine below_drewN_ ?_ | refine Below.drew ?_))) hb1 (by (try simp) <;> omega)) hb2 (by omega)⟩
set_option maxHeartbeats 1000000 in
theorem specCompare_any (a b c d : Int) (w : World) (ha : I64 a) (hb : I64 b) (hc : I64 c) (hd : I64 d) :
    Calls Try.prog 12 #[.agg #[.int .i64 a, .int .i64 b], .agg #[.int .i64 c, .int .i64 d]] w fun e w' => e = .returned (.int .i64 (cmR (okF2 a b c d) (a * d) (c * b))) ∧ Below w.heap.size w w' := by
  cases o1 : okF a b
  · have g : okF2 a b c d = false := by simp [okF2, o1]
    rw [g]
    have O1 := Lib.hid o1
    clear g o1
    go_enter Try.func12, Try.ntmps12
    go_wp2_with fail
    refine (l02Ok_any a b _ ha hb).mono ?_
    rw [O1.out]
    rintro e w1 ⟨rfl, hb1⟩
    go_wp2
    go_ret
    exact ⟨ret_int (cmR_no _ _), nxt (by (repeat (first | exact Below.refl _ _ | assumption | refine Below.setCell ?_ (by (try simp) <;> omega) _ | refine Below.alloc ?_ (by (try simp) <;> omega) _ | refine below_drewN_ ?_ | refine Below.drew ?_))) hb1 (by (try simp) <;> omega)⟩
  have hO1 := o1
  have O1 := Lib.hid o1
  clear o1
  have E : ∀ w1 : World, Below ((w.alloc (.cells #[.int .i64 a, .int .i64 b] 25)).alloc (.cells #[.int .i64 c, .int .i64 d] 25)).heap.size ((w.alloc (.cells #[.int .i64 a, .int .i64 b] 25)).alloc (.cells #[.int .i64 c, .int .i64 d] 25)) w1 →
      w1.cell? ⟨w.heap.size, 0, none⟩ = some (.int .i64 a) ∧ w1.cell? ⟨w.heap.size, 1, none⟩ = some (.int .i64 b) ∧ w1.cell? ⟨w.heap.size + 1, 0, none⟩ = some (.int .i64 c) ∧ w1.cell? ⟨w.heap.size + 1, 1, none⟩ = some (.int .i64 d) := by
    intro w1 h
    obtain ⟨x1, x2⟩ := bcell h
    exact ⟨(x1 _ _ (by (try simp) <;> omega)).trans (by go_simp), (x1 _ _ (by (try simp) <;> omega)).trans (by go_simp), (x1 _ _ (by (try simp) <;> omega)).trans (by go_simp), (x1 _ _ (by (try simp) <;> omega)).trans (by go_simp)⟩
  have HEE := Lib.hid E
  clear E
  cases o2 : okF c d
  · have g : okF2 a b c d = false := by simp [okF2, o2]
    rw [g]
    have O2 := Lib.hid o2
    clear g o2 hO1
    go_enter Try.func12, Try.ntmps12
    go_wp2_with fail
    refine (l02Ok_any a b _ ha hb).mono ?_
    rw [O1.out]
    rintro e w1 ⟨rfl, hb1⟩
    obtain ⟨ea, eb, ec, ed⟩ := HEE.out w1 hb1
    have hz := hb1.size
    simp at hz
    go_wp2_with fail
    refine (l02Ok_any c d _ hc hd).mono ?_
    rw [O2.out]
    rintro e w2 ⟨rfl, hb2⟩
    go_wp2
    go_ret
    exact ⟨ret_int (cmR_no _ _), nxt (nxt (by (repeat (first | exact Below.refl _ _ | assumption | refine Below.setCell ?_ (by (try simp) <;> omega) _ | refine Below.alloc ?_ (by (try simp) <;> omega) _ | refine below_drewN_ ?_ | refine Below.drew ?_))) hb1 (by (try simp) <;> omega)) hb2 (by omega)⟩
  · have g : okF2 a b c d = true := by simp [okF2, hO1, o2]
    rw [g]
    have hO2 := o2
    have O2 := Lib.hid o2
    have HO1 := Lib.hid hO1
    have HO2 := Lib.hid hO2
    clear g o2 hO1 hO2
    go_enter Try.func12, Try.ntmps12
    go_wp2_with fail
    refine (l02Ok_any a b _ ha hb).mono ?_
    rw [O1.out]
    rintro e w1 ⟨rfl, hb1⟩
    obtain ⟨ea, eb, ec, ed⟩ := HEE.out w1 hb1
    have hz := hb1.size
    simp at hz
    go_wp2_with fail
    refine (l02Ok_any c d _ hc hd).mono ?_
    rw [O2.out]
    rintro e w2 ⟨rfl, hb2⟩
    obtain ⟨y1, y2⟩ := bcell hb2
    have hz2 := hb2.size
    have ea' := (y1 _ 0 (by omega)).trans ea
    have eb' := (y1 _ 1 (by omega)).trans eb
    have ec' := (y1 _ 0 (by omega)).trans ec
    have ed' := (y1 _ 1 (by omega)).trans ed
    clear y1 y2 ea eb ec ed
    go_wp2_with fail
    refine (l02Compare_any a b c d _ HO1.out HO2.out).mono ?_
    rintro e w3 ⟨rfl, hb3⟩
    go_wp2
    go_ret
    exact ⟨ret_int (cmR_yes _ _), nxt (nxt (nxt (by (repeat (first | exact Below.refl _ _ | assumption | refine Below.setCell ?_ (by (try simp) <;> omega) _ | refine Below.alloc ?_ (by (try simp) <;> omega) _ | refine below_drewN_ ?_ | refine Below.drew ?_))) hb1 (by (try simp) <;> omega)) hb2 (by omega)) hb3 (by omega)⟩
def GotC (W0 : World) (r : Int) (s5 : Value) (wx : World) : Prop := s5 = .int .i64 r ∧ Below W0.heap.size W0 wx
theorem GotC.mk {w W0 wx : World} {a b c d r : Int} (h : Below W0.heap.size W0 wx ∧ wx.cell? ⟨w.heap.size, 0, none⟩ = some (.int .i64 a) ∧ wx.cell? ⟨w.heap.size, 1, none⟩ = some (.int .i64 b) ∧ wx.cell? ⟨w.heap.size + 1, 0, none⟩ = some (.int .i64 c) ∧ wx.cell? ⟨w.heap.size + 1, 1, none⟩ = some (.int .i64 d)) : GotC W0 r (.int .i64 r) wx := ⟨rfl, h.1⟩
set_option maxHeartbeats 4000000 in
theorem walk_FnExactCompareFrac (a b c d : Int) (w : World) (ha : I64 a) (hb : I64 b) (hc : I64 c) (hd : I64 d) : Calls Try.prog 3 #[.agg #[.int .i64 a, .int .i64 b], .agg #[.int .i64 c, .int .i64 d]] w fun e w' => e = .returned (.bool true) ∧ Below w.heap.size w w' := by
  have HE := Lib.hid (Boxed.start w a b c d)
  have hbel : Below w.heap.size w ((w.alloc (.cells #[.int .i64 a, .int .i64 b] 23)).alloc (.cells #[.int .i64 c, .int .i64 d] 23)) := by (repeat (first | exact Below.refl _ _ | assumption | refine Below.setCell ?_ (by (try simp) <;> omega) _ | refine Below.alloc ?_ (by (try simp) <;> omega) _ | refine below_drewN_ ?_ | refine Below.drew ?_))
  have hsz : w.heap.size + 2 ≤ ((w.alloc (.cells #[.int .i64 a, .int .i64 b] 23)).alloc (.cells #[.int .i64 c, .int .i64 d] 23)).heap.size := by simp
  go_enter Try.func3, Try.ntmps3
  go_upto_region 1 with fail
  generalize ((w.alloc (.cells #[.int .i64 a, .int .i64 b] 23)).alloc (.cells #[.int .i64 c, .int .i64 d] 23)) = W0 at *
  go_cut [5] (fun s5 wx => GotC W0 (cmR (okF2 a b c d) (a * d) (c * b)) s5 wx)
  case first =>
    go_region_held3 (fun w' => Below W0.heap.size W0 w' ∧ w'.cell? ⟨w.heap.size, 0, none⟩ = some (.int .i64 a) ∧ w'.cell? ⟨w.heap.size, 1, none⟩ = some (.int .i64 b) ∧ w'.cell? ⟨w.heap.size + 1, 0, none⟩ = some (.int .i64 c) ∧ w'.cell? ⟨w.heap.size + 1, 1, none⟩ = some (.int .i64 d))
      ((first | (first | assumption | (refine Hid.out ?_; assumption)) | (exact bx_keep HE (Below.drew (Below.refl _ _))) | (exact bx_keep HE (Below.drew (Below.alloc (Below.refl _ _) (Nat.le_refl _) _))) | (refine bx_alloc HE ?_ _; (first | assumption | (refine Hid.out ?_; assumption))) | (refine bx_set HE (bx_set HE ?_ _ _ ?_) _ _ ?_; ((first | assumption | (refine Hid.out ?_; assumption))); ((try simp) <;> omega); ((try simp) <;> omega)) | (refine bx_set HE ?_ _ _ ?_; ((first | assumption | (refine Hid.out ?_; assumption))); ((try simp) <;> omega))))
      ((first | (go_at_call 13; refine (toFrac_any _ _ _).mono ?_; rintro e w1 ⟨rfl, hbk⟩; have hS := Lib.hid (bx_call HE (by assumption) hbk); obtain ⟨hc1, hf1⟩ := bcell hbk; have hz0 := fun b h => Nat.lt_of_lt_of_le (n := b) h hbk.size; have hz1 := hbk.size; (try simp at hz1); (try have hq1 : W0.heap.size < w1.heap.size := by omega); clear hbk) | (go_at_call 12; refine (specCompare_any _ _ _ _ _ ha hb hc hd).mono ?_; rintro e w1 ⟨rfl, hbk⟩; have hS := Lib.hid (bx_call HE (by assumption) hbk); obtain ⟨hc1, hf1⟩ := bcell hbk; have hz0 := fun b h => Nat.lt_of_lt_of_le (n := b) h hbk.size; have hz1 := hbk.size; (try simp at hz1); (try have hq1 : W0.heap.size < w1.heap.size := by omega); clear hbk)))
    all_goals
      go_wp2_with fail
      go_meet
      refine GotC.mk (w := w) (a := a) (b := b) (c := c) (d := d) ?_
      assumption
  case rest =>
    obtain ⟨rfl, hbw⟩ := hcut
    have hbel1 := nxt hbel hbw (by omega)
    have HF := Lib.hid (Boxed.of (bx_keep HE hbw))
    rename World => W1
    have hsz1 : w.heap.size + 2 ≤ W1.heap.size := by have := hbw.size; omega
    go_upto_region 2 with fail
    go_cut [6] (fun s6 wx => GotC W1 (cmR (okF2 a b c d) (a * d) (c * b)) s6 wx)
    case first =>
      go_region_held3 (fun w' => Below W1.heap.size W1 w' ∧ w'.cell? ⟨w.heap.size, 0, none⟩ = some (.int .i64 a) ∧ w'.cell? ⟨w.heap.size, 1, none⟩ = some (.int .i64 b) ∧ w'.cell? ⟨w.heap.size + 1, 0, none⟩ = some (.int .i64 c) ∧ w'.cell? ⟨w.heap.size + 1, 1, none⟩ = some (.int .i64 d))
        ((first | (first | assumption | (refine Hid.out ?_; assumption)) | (exact bx_keep HF (Below.drew (Below.refl _ _))) | (exact bx_keep HF (Below.drew (Below.alloc (Below.refl _ _) (Nat.le_refl _) _))) | (refine bx_alloc HF ?_ _; (first | assumption | (refine Hid.out ?_; assumption))) | (refine bx_set HF (bx_set HF ?_ _ _ ?_) _ _ ?_; ((first | assumption | (refine Hid.out ?_; assumption))); ((try simp) <;> omega); ((try simp) <;> omega)) | (refine bx_set HF ?_ _ _ ?_; ((first | assumption | (refine Hid.out ?_; assumption))); ((try simp) <;> omega))))
        ((first | (go_at_call 13; refine (toFrac_any _ _ _).mono ?_; rintro e w1 ⟨rfl, hbk⟩; have hS := Lib.hid (bx_call HF (by assumption) hbk); obtain ⟨hc1, hf1⟩ := bcell hbk; have hz0 := fun b h => Nat.lt_of_lt_of_le (n := b) h hbk.size; have hz1 := hbk.size; (try simp at hz1); (try have hq1 : W1.heap.size < w1.heap.size := by omega); clear hbk) | (go_at_call 14; refine (implCompare_any _ _ _ _ _ ha hb hc hd).mono ?_; rintro e w1 ⟨rfl, hbk⟩; have hS := Lib.hid (bx_call HF (by assumption) hbk); obtain ⟨hc1, hf1⟩ := bcell hbk; have hz0 := fun b h => Nat.lt_of_lt_of_le (n := b) h hbk.size; have hz1 := hbk.size; (try simp at hz1); (try have hq1 : W1.heap.size < w1.heap.size := by omega); clear hbk)))
      all_goals
        go_wp2_with fail
        go_meet
        refine GotC.mk (w := w) (a := a) (b := b) (c := c) (d := d) ?_
        assumption
    case rest =>
      obtain ⟨rfl, hbw2⟩ := hcut
      have hbel2 := nxt hbel1 hbw2 (by omega)
      go_wp2
      go_ret
      exact ⟨rfl, hbel2⟩

end Go.Proofs.Ytiobdgnhfecjnaa
