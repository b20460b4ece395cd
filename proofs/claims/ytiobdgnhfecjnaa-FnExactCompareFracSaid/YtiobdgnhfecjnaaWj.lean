/- Walks over the quotient of two fractions. -/
import Derived.Test.YtiobdgnhfecjnaaWh
namespace Go.Proofs.Ytiobdgnhfecjnaa
open Go.RowKit
set_option linter.unusedVariables false

def dvN (g : Bool) (c n d : Int) : Int := if g then (if c = 0 then 0 else mkN n d) else 0
def dvD (g : Bool) (c n d : Int) : Int := if g then (if c = 0 then 0 else mkD n d) else 0
def dvC (g : Bool) (c n d : Int) : Int := if g then (if c = 0 then 2 else mkC n d) else 1
theorem dv_no (c n d : Int) : (0 : Int) = dvN false c n d ∧ (0 : Int) = dvD false c n d ∧ (1 : Int) = dvC false c n d := ⟨rfl, rfl, rfl⟩
theorem dv_zero (n d : Int) : (0 : Int) = dvN true 0 n d ∧ (0 : Int) = dvD true 0 n d ∧ (2 : Int) = dvC true 0 n d := ⟨rfl, rfl, rfl⟩
theorem dv_yes {c : Int} (h : (c == 0) = false) (n d : Int) : mkN n d = dvN true c n d ∧ mkD n d = dvD true c n d ∧ mkC n d = dvC true c n d := by
  have : c ≠ 0 := by simpa using h
  simp [dvN, dvD, dvC, this]

set_option maxHeartbeats 1000000 in
theorem implDiv_any (a b c d : Int) (w : World) (ha : I64 a) (hb : I64 b) (hc : I64 c) (hd : I64 d) :
    Calls Try.prog 25 #[.agg #[.int .i64 a, .int .i64 b], .agg #[.int .i64 c, .int .i64 d]] w (FracIs (dvN (okF2 a b c d) c (a*d) (b*c)) (dvD (okF2 a b c d) c (a*d) (b*c)) (dvC (okF2 a b c d) c (a*d) (b*c)) w) := by
  cases g : okF2 a b c d
  · have H := Lib.hid (dv_no c (a*d) (b*c))
    have G := Lib.hid g
    clear g
    go_enter Try.func25, Try.ntmps25
    go_wp2_with fail
    refine (areFracs2_any a b c d _ _ (by simp) ha hb hc hd (by go_simp) (by go_simp) (by go_simp) (by go_simp)).mono ?_
    rw [G.out]
    rintro e w1 ⟨rfl, hb1⟩
    obtain ⟨x1, x2⟩ := bcell hb1
    have hz := hb1.size
    simp at hz
    have e0 : w1.cell? ⟨w.heap.size + 1 + 1, 0, none⟩ = some (.int .i64 0) := (x1 _ _ (by (try simp) <;> omega)).trans (by go_simp)
    have e1 : w1.cell? ⟨w.heap.size + 1 + 1, 1, none⟩ = some (.int .i64 0) := (x1 _ _ (by (try simp) <;> omega)).trans (by go_simp)
    have f0 : w1.frozen? ⟨w.heap.size + 1 + 1, 0, none⟩ = false := (x2 _ _ (by simp)).trans (by go_simp)
    have f1 : w1.frozen? ⟨w.heap.size + 1 + 1, 1, none⟩ = false := (x2 _ _ (by simp)).trans (by go_simp)
    clear x1 x2
    go_wp2
    refine bodyPost_ret (v := .tuple #[.agg #[.int .i64 0, .int .i64 0], .int .i64 1]) (by simp [results, Try.results25, go_sem, e0, e1]) rfl (FracIs.mk H.out ?_)
    have hbb := nxt (a := w) (B := w.heap.size) (by (repeat (first | exact Below.refl _ _ | assumption | refine Below.setCell ?_ (by (try simp) <;> omega) _ | refine Below.alloc ?_ (by (try simp) <;> omega) _ | refine below_drewN_ ?_ | refine Below.drew ?_))) hb1 (by simp; omega)
    (repeat (first | exact Below.refl _ _ | assumption | refine Below.setCell ?_ (by (try simp) <;> omega) _ | refine Below.alloc ?_ (by (try simp) <;> omega) _ | refine below_drewN_ ?_ | refine Below.drew ?_))
  · by_cases h0 : c = 0
    · subst h0
      have H := Lib.hid (dv_zero (a*d) (b*0))
      obtain ⟨o1, o2⟩ := okF2_inv g
      obtain ⟨b1, b2, a1, a2, -⟩ := okF_inv o1
      obtain ⟨d1, d2, c1, c2, -⟩ := okF_inv o2
      obtain ⟨p1, p2⟩ := prod_in a1 a2 d1 d2
      obtain ⟨q1, q2⟩ := prod_in c1 c2 b1 b2
      obtain ⟨r1, r2⟩ := prod_dd b1 b2 d1 d2
      obtain ⟨s1, s2⟩ := prod_nn a1 a2 c1 c2
      have G := Lib.hid g
      clear g o1 o2
      go_enter Try.func25, Try.ntmps25
      go_wp2_with fail
      refine (areFracs2_any a b 0 d _ _ (by simp) ha hb hc hd (by go_simp) (by go_simp) (by go_simp) (by go_simp)).mono ?_
      rw [G.out]
      rintro e w1 ⟨rfl, hb1⟩
      obtain ⟨x1, x2⟩ := bcell hb1
      have hz := hb1.size
      simp at hz
      have e0 : w1.cell? ⟨w.heap.size + 1 + 1, 0, none⟩ = some (.int .i64 0) := (x1 _ _ (by (try simp) <;> omega)).trans (by go_simp)
      have e1 : w1.cell? ⟨w.heap.size + 1 + 1, 1, none⟩ = some (.int .i64 0) := (x1 _ _ (by (try simp) <;> omega)).trans (by go_simp)
      have f0 : w1.frozen? ⟨w.heap.size + 1 + 1, 0, none⟩ = false := (x2 _ _ (by simp)).trans (by go_simp)
      have f1 : w1.frozen? ⟨w.heap.size + 1 + 1, 1, none⟩ = false := (x2 _ _ (by simp)).trans (by go_simp)
      have ea : w1.cell? ⟨w.heap.size, 0, none⟩ = some (.int .i64 a) := (x1 _ _ (by (try simp) <;> omega)).trans (by go_simp)
      have eb : w1.cell? ⟨w.heap.size, 1, none⟩ = some (.int .i64 b) := (x1 _ _ (by (try simp) <;> omega)).trans (by go_simp)
      have ec : w1.cell? ⟨w.heap.size + 1, 0, none⟩ = some (.int .i64 0) := (x1 _ _ (by (try simp) <;> omega)).trans (by go_simp)
      have ed : w1.cell? ⟨w.heap.size + 1, 1, none⟩ = some (.int .i64 d) := (x1 _ _ (by (try simp) <;> omega)).trans (by go_simp)
      clear x1 x2
      go_wp2
      refine bodyPost_ret (v := .tuple #[.agg #[.int .i64 0, .int .i64 0], .int .i64 2]) (by simp [results, Try.results25, go_sem, e0, e1]) rfl (FracIs.mk H.out ?_)
      have hbb := nxt (a := w) (B := w.heap.size) (by (repeat (first | exact Below.refl _ _ | assumption | refine Below.setCell ?_ (by (try simp) <;> omega) _ | refine Below.alloc ?_ (by (try simp) <;> omega) _ | refine below_drewN_ ?_ | refine Below.drew ?_))) hb1 (by simp; omega)
      (repeat (first | exact Below.refl _ _ | assumption | refine Below.setCell ?_ (by (try simp) <;> omega) _ | refine Below.alloc ?_ (by (try simp) <;> omega) _ | refine below_drewN_ ?_ | refine Below.drew ?_))
    · have hc0 : (c == 0) = false := by simpa using h0
      have H := Lib.hid (dv_yes hc0 (a*d) (b*c))
      obtain ⟨o1, o2⟩ := okF2_inv g
      obtain ⟨b1, b2, a1, a2, -⟩ := okF_inv o1
      obtain ⟨d1, d2, c1, c2, -⟩ := okF_inv o2
      obtain ⟨p1, p2⟩ := prod_in a1 a2 d1 d2
      obtain ⟨q1, q2⟩ := prod_in c1 c2 b1 b2
      obtain ⟨r1, r2⟩ := prod_dd b1 b2 d1 d2
      have t1 : -1000000000000000 ≤ b * c := by rw [Int.mul_comm]; exact q1
      have t2 : b * c ≤ 1000000000000000 := by rw [Int.mul_comm]; exact q2
      obtain ⟨s1, s2⟩ := prod_nn a1 a2 c1 c2
      have G := Lib.hid g
      clear g o1 o2
      go_enter Try.func25, Try.ntmps25
      go_wp2_with fail
      refine (areFracs2_any a b c d _ _ (by simp) ha hb hc hd (by go_simp) (by go_simp) (by go_simp) (by go_simp)).mono ?_
      rw [G.out]
      rintro e w1 ⟨rfl, hb1⟩
      obtain ⟨x1, x2⟩ := bcell hb1
      have hz := hb1.size
      simp at hz
      have e0 : w1.cell? ⟨w.heap.size + 1 + 1, 0, none⟩ = some (.int .i64 0) := (x1 _ _ (by (try simp) <;> omega)).trans (by go_simp)
      have e1 : w1.cell? ⟨w.heap.size + 1 + 1, 1, none⟩ = some (.int .i64 0) := (x1 _ _ (by (try simp) <;> omega)).trans (by go_simp)
      have f0 : w1.frozen? ⟨w.heap.size + 1 + 1, 0, none⟩ = false := (x2 _ _ (by simp)).trans (by go_simp)
      have f1 : w1.frozen? ⟨w.heap.size + 1 + 1, 1, none⟩ = false := (x2 _ _ (by simp)).trans (by go_simp)
      have ea : w1.cell? ⟨w.heap.size, 0, none⟩ = some (.int .i64 a) := (x1 _ _ (by (try simp) <;> omega)).trans (by go_simp)
      have eb : w1.cell? ⟨w.heap.size, 1, none⟩ = some (.int .i64 b) := (x1 _ _ (by (try simp) <;> omega)).trans (by go_simp)
      have ec : w1.cell? ⟨w.heap.size + 1, 0, none⟩ = some (.int .i64 c) := (x1 _ _ (by (try simp) <;> omega)).trans (by go_simp)
      have ed : w1.cell? ⟨w.heap.size + 1, 1, none⟩ = some (.int .i64 d) := (x1 _ _ (by (try simp) <;> omega)).trans (by go_simp)
      clear x1 x2
      go_wp2_with fail
      refine (implMake_any _ _ _ ⟨by omega, by omega⟩ ⟨by omega, by omega⟩).mono ?_
      rintro e w2 ⟨rfl, hb2⟩
      obtain ⟨y1, y2⟩ := bcell hb2
      have hz2 := hb2.size
      have hbb := nxt (nxt (a := w) (B := w.heap.size) (by (repeat (first | exact Below.refl _ _ | assumption | refine Below.setCell ?_ (by (try simp) <;> omega) _ | refine Below.alloc ?_ (by (try simp) <;> omega) _ | refine below_drewN_ ?_ | refine Below.drew ?_))) hb1 (by simp; omega)) hb2 (by omega)
      have k0 : w2.cell? ⟨w.heap.size + 1 + 1, 0, none⟩ = some (.int .i64 0) := (y1 _ _ (by omega)).trans e0
      have k1 : w2.cell? ⟨w.heap.size + 1 + 1, 1, none⟩ = some (.int .i64 0) := (y1 _ _ (by omega)).trans e1
      have l0 : w2.frozen? ⟨w.heap.size + 1 + 1, 0, none⟩ = false := (y2 _ _ (by omega)).trans f0
      have l1 : w2.frozen? ⟨w.heap.size + 1 + 1, 1, none⟩ = false := (y2 _ _ (by omega)).trans f1
      clear y1 y2
      go_wp2
      refine bodyPost_ret (v := .tuple #[.agg #[.int .i64 (mkN (a*d) (b*c)), .int .i64 (mkD (a*d) (b*c))], .int .i64 (mkC (a*d) (b*c))]) (by simp [results, Try.results25, go_sem, k0, k1]) rfl (FracIs.mk H.out ?_)
      (repeat (first | exact Below.refl _ _ | assumption | refine Below.setCell ?_ (by (try simp) <;> omega) _ | refine Below.alloc ?_ (by (try simp) <;> omega) _ | refine below_drewN_ ?_ | refine Below.drew ?_))
set_option maxHeartbeats 1000000 in
theorem sDiv_any (a b c d : Int) (w : World) (ha : I64 a) (hb : I64 b) (hc : I64 c) (hd : I64 d) :
    Calls Try.prog 24 #[.agg #[.int .i64 a, .int .i64 b], .agg #[.int .i64 c, .int .i64 d]] w (FracIs (dvN (okF2 a b c d) c (a*d) (b*c)) (dvD (okF2 a b c d) c (a*d) (b*c)) (dvC (okF2 a b c d) c (a*d) (b*c)) w) := by
  cases o1 : okF a b
  · have g : okF2 a b c d = false := by simp [okF2, o1]
    rw [g]
    have H := Lib.hid (dv_no c (a*d) (b*c))
    have O1 := Lib.hid o1
    clear g o1
    go_enter Try.func24, Try.ntmps24
    go_wp2_with fail
    refine (l02Ok_any a b _ ha hb).mono ?_
    rw [O1.out]
    rintro e w1 ⟨rfl, hb1⟩
    obtain ⟨x1, x2⟩ := bcell hb1
    have hz := hb1.size
    simp at hz
    have e0 : w1.cell? ⟨w.heap.size + 1 + 1, 0, none⟩ = some (.int .i64 0) := (x1 _ _ (by (try simp) <;> omega)).trans (by go_simp)
    have e1 : w1.cell? ⟨w.heap.size + 1 + 1, 1, none⟩ = some (.int .i64 0) := (x1 _ _ (by (try simp) <;> omega)).trans (by go_simp)
    have f0 : w1.frozen? ⟨w.heap.size + 1 + 1, 0, none⟩ = false := (x2 _ _ (by (try simp) <;> omega)).trans (by go_simp)
    have f1 : w1.frozen? ⟨w.heap.size + 1 + 1, 1, none⟩ = false := (x2 _ _ (by (try simp) <;> omega)).trans (by go_simp)
    clear x1 x2
    go_wp2
    refine bodyPost_ret (v := .tuple #[.agg #[.int .i64 0, .int .i64 0], .int .i64 1]) (by simp [results, Try.results24, go_sem, e0, e1]) rfl (FracIs.mk H.out ?_)
    have hbb := nxt (a := w) (B := w.heap.size) (by (repeat (first | exact Below.refl _ _ | assumption | refine Below.setCell ?_ (by (try simp) <;> omega) _ | refine Below.alloc ?_ (by (try simp) <;> omega) _ | refine below_drewN_ ?_ | refine Below.drew ?_))) hb1 (by simp; omega)
    (repeat (first | exact Below.refl _ _ | assumption | refine Below.setCell ?_ (by (try simp) <;> omega) _ | refine Below.alloc ?_ (by (try simp) <;> omega) _ | refine below_drewN_ ?_ | refine Below.drew ?_))
  cases o2 : okF c d
  · have g : okF2 a b c d = false := by simp [okF2, o2]
    rw [g]
    have H := Lib.hid (dv_no c (a*d) (b*c))
    have O1 := Lib.hid o1
    have O2 := Lib.hid o2
    clear g o1 o2
    go_enter Try.func24, Try.ntmps24
    go_wp2_with fail
    refine (l02Ok_any a b _ ha hb).mono ?_
    rw [O1.out]
    rintro e w1 ⟨rfl, hb1⟩
    obtain ⟨x1, x2⟩ := bcell hb1
    have hz := hb1.size
    simp at hz
    have e0 : w1.cell? ⟨w.heap.size + 1 + 1, 0, none⟩ = some (.int .i64 0) := (x1 _ _ (by (try simp) <;> omega)).trans (by go_simp)
    have e1 : w1.cell? ⟨w.heap.size + 1 + 1, 1, none⟩ = some (.int .i64 0) := (x1 _ _ (by (try simp) <;> omega)).trans (by go_simp)
    have f0 : w1.frozen? ⟨w.heap.size + 1 + 1, 0, none⟩ = false := (x2 _ _ (by (try simp) <;> omega)).trans (by go_simp)
    have f1 : w1.frozen? ⟨w.heap.size + 1 + 1, 1, none⟩ = false := (x2 _ _ (by (try simp) <;> omega)).trans (by go_simp)
    have ea : w1.cell? ⟨w.heap.size, 0, none⟩ = some (.int .i64 a) := (x1 _ _ (by (try simp) <;> omega)).trans (by go_simp)
    have eb : w1.cell? ⟨w.heap.size, 1, none⟩ = some (.int .i64 b) := (x1 _ _ (by (try simp) <;> omega)).trans (by go_simp)
    have ec : w1.cell? ⟨w.heap.size + 1, 0, none⟩ = some (.int .i64 c) := (x1 _ _ (by (try simp) <;> omega)).trans (by go_simp)
    have ed : w1.cell? ⟨w.heap.size + 1, 1, none⟩ = some (.int .i64 d) := (x1 _ _ (by (try simp) <;> omega)).trans (by go_simp)
    clear x1 x2
    go_wp2_with fail
    refine (l02Ok_any c d _ hc hd).mono ?_
    rw [O2.out]
    rintro e w2 ⟨rfl, hb2⟩
    obtain ⟨y1, y2⟩ := bcell hb2
    have hz2 := hb2.size
    have e0' : w2.cell? ⟨w.heap.size + 1 + 1, 0, none⟩ = some (.int .i64 0) := (y1 _ _ (by omega)).trans e0
    have e1' : w2.cell? ⟨w.heap.size + 1 + 1, 1, none⟩ = some (.int .i64 0) := (y1 _ _ (by omega)).trans e1
    have f0' : w2.frozen? ⟨w.heap.size + 1 + 1, 0, none⟩ = false := (y2 _ _ (by omega)).trans f0
    have f1' : w2.frozen? ⟨w.heap.size + 1 + 1, 1, none⟩ = false := (y2 _ _ (by omega)).trans f1
    clear y1 y2
    go_wp2
    refine bodyPost_ret (v := .tuple #[.agg #[.int .i64 0, .int .i64 0], .int .i64 1]) (by simp [results, Try.results24, go_sem, e0', e1']) rfl (FracIs.mk H.out ?_)
    have hbb := nxt (nxt (a := w) (B := w.heap.size) (by (repeat (first | exact Below.refl _ _ | assumption | refine Below.setCell ?_ (by (try simp) <;> omega) _ | refine Below.alloc ?_ (by (try simp) <;> omega) _ | refine below_drewN_ ?_ | refine Below.drew ?_))) hb1 (by simp; omega)) hb2 (by omega)
    (repeat (first | exact Below.refl _ _ | assumption | refine Below.setCell ?_ (by (try simp) <;> omega) _ | refine Below.alloc ?_ (by (try simp) <;> omega) _ | refine below_drewN_ ?_ | refine Below.drew ?_))
  · by_cases h0 : c = 0
    · subst h0
      have g : okF2 a b 0 d = true := by simp [okF2, o1, o2]
      rw [g]
      have H := Lib.hid (dv_zero (a*d) (b*0))
      have O1 := Lib.hid o1
      have O2 := Lib.hid o2
      obtain ⟨b1, b2, a1, a2, -⟩ := okF_inv o1
      obtain ⟨d1, d2, c1, c2, -⟩ := okF_inv o2
      obtain ⟨p1, p2⟩ := prod_in a1 a2 d1 d2
      obtain ⟨q1, q2⟩ := prod_in c1 c2 b1 b2
      obtain ⟨r1, r2⟩ := prod_dd b1 b2 d1 d2
      obtain ⟨s1, s2⟩ := prod_nn a1 a2 c1 c2
      clear g o1 o2
      go_enter Try.func24, Try.ntmps24
      go_wp2_with fail
      refine (l02Ok_any a b _ ha hb).mono ?_
      rw [O1.out]
      rintro e w1 ⟨rfl, hb1⟩
      obtain ⟨x1, x2⟩ := bcell hb1
      have hz := hb1.size
      simp at hz
      have e0 : w1.cell? ⟨w.heap.size + 1 + 1, 0, none⟩ = some (.int .i64 0) := (x1 _ _ (by (try simp) <;> omega)).trans (by go_simp)
      have e1 : w1.cell? ⟨w.heap.size + 1 + 1, 1, none⟩ = some (.int .i64 0) := (x1 _ _ (by (try simp) <;> omega)).trans (by go_simp)
      have f0 : w1.frozen? ⟨w.heap.size + 1 + 1, 0, none⟩ = false := (x2 _ _ (by (try simp) <;> omega)).trans (by go_simp)
      have f1 : w1.frozen? ⟨w.heap.size + 1 + 1, 1, none⟩ = false := (x2 _ _ (by (try simp) <;> omega)).trans (by go_simp)
      have ea : w1.cell? ⟨w.heap.size, 0, none⟩ = some (.int .i64 a) := (x1 _ _ (by (try simp) <;> omega)).trans (by go_simp)
      have eb : w1.cell? ⟨w.heap.size, 1, none⟩ = some (.int .i64 b) := (x1 _ _ (by (try simp) <;> omega)).trans (by go_simp)
      have ec : w1.cell? ⟨w.heap.size + 1, 0, none⟩ = some (.int .i64 0) := (x1 _ _ (by (try simp) <;> omega)).trans (by go_simp)
      have ed : w1.cell? ⟨w.heap.size + 1, 1, none⟩ = some (.int .i64 d) := (x1 _ _ (by (try simp) <;> omega)).trans (by go_simp)
      clear x1 x2
      go_wp2_with fail
      refine (l02Ok_any 0 d _ hc hd).mono ?_
      rw [O2.out]
      rintro e w2 ⟨rfl, hb2⟩
      obtain ⟨y1, y2⟩ := bcell hb2
      have hz2 := hb2.size
      have e0' : w2.cell? ⟨w.heap.size + 1 + 1, 0, none⟩ = some (.int .i64 0) := (y1 _ _ (by omega)).trans e0
      have e1' : w2.cell? ⟨w.heap.size + 1 + 1, 1, none⟩ = some (.int .i64 0) := (y1 _ _ (by omega)).trans e1
      have ea' : w2.cell? ⟨w.heap.size, 0, none⟩ = some (.int .i64 a) := (y1 _ _ (by omega)).trans ea
      have eb' : w2.cell? ⟨w.heap.size, 1, none⟩ = some (.int .i64 b) := (y1 _ _ (by omega)).trans eb
      have ec' : w2.cell? ⟨w.heap.size + 1, 0, none⟩ = some (.int .i64 0) := (y1 _ _ (by omega)).trans ec
      have ed' : w2.cell? ⟨w.heap.size + 1, 1, none⟩ = some (.int .i64 d) := (y1 _ _ (by omega)).trans ed
      have f0' : w2.frozen? ⟨w.heap.size + 1 + 1, 0, none⟩ = false := (y2 _ _ (by omega)).trans f0
      have f1' : w2.frozen? ⟨w.heap.size + 1 + 1, 1, none⟩ = false := (y2 _ _ (by omega)).trans f1
      clear y1 y2
      go_wp2
      refine bodyPost_ret (v := .tuple #[.agg #[.int .i64 0, .int .i64 0], .int .i64 2]) (by simp [results, Try.results24, go_sem, e0', e1']) rfl (FracIs.mk H.out ?_)
      have hbb := nxt (nxt (a := w) (B := w.heap.size) (by (repeat (first | exact Below.refl _ _ | assumption | refine Below.setCell ?_ (by (try simp) <;> omega) _ | refine Below.alloc ?_ (by (try simp) <;> omega) _ | refine below_drewN_ ?_ | refine Below.drew ?_))) hb1 (by simp; omega)) hb2 (by omega)
      (repeat (first | exact Below.refl _ _ | assumption | refine Below.setCell ?_ (by (try simp) <;> omega) _ | refine Below.alloc ?_ (by (try simp) <;> omega) _ | refine below_drewN_ ?_ | refine Below.drew ?_))
    · have hc0 : (c == 0) = false := by simpa using h0
      have g : okF2 a b c d = true := by simp [okF2, o1, o2]
      rw [g]
      have H := Lib.hid (dv_yes hc0 (a*d) (b*c))
      have O1 := Lib.hid o1
      have O2 := Lib.hid o2
      obtain ⟨b1, b2, a1, a2, -⟩ := okF_inv o1
      obtain ⟨d1, d2, c1, c2, -⟩ := okF_inv o2
      obtain ⟨p1, p2⟩ := prod_in a1 a2 d1 d2
      obtain ⟨q1, q2⟩ := prod_in c1 c2 b1 b2
      obtain ⟨r1, r2⟩ := prod_dd b1 b2 d1 d2
      have t1 : -1000000000000000 ≤ b * c := by rw [Int.mul_comm]; exact q1
      have t2 : b * c ≤ 1000000000000000 := by rw [Int.mul_comm]; exact q2
      obtain ⟨s1, s2⟩ := prod_nn a1 a2 c1 c2
      clear g o1 o2
      go_enter Try.func24, Try.ntmps24
      go_wp2_with fail
      refine (l02Ok_any a b _ ha hb).mono ?_
      rw [O1.out]
      rintro e w1 ⟨rfl, hb1⟩
      obtain ⟨x1, x2⟩ := bcell hb1
      have hz := hb1.size
      simp at hz
      have e0 : w1.cell? ⟨w.heap.size + 1 + 1, 0, none⟩ = some (.int .i64 0) := (x1 _ _ (by (try simp) <;> omega)).trans (by go_simp)
      have e1 : w1.cell? ⟨w.heap.size + 1 + 1, 1, none⟩ = some (.int .i64 0) := (x1 _ _ (by (try simp) <;> omega)).trans (by go_simp)
      have f0 : w1.frozen? ⟨w.heap.size + 1 + 1, 0, none⟩ = false := (x2 _ _ (by (try simp) <;> omega)).trans (by go_simp)
      have f1 : w1.frozen? ⟨w.heap.size + 1 + 1, 1, none⟩ = false := (x2 _ _ (by (try simp) <;> omega)).trans (by go_simp)
      have ea : w1.cell? ⟨w.heap.size, 0, none⟩ = some (.int .i64 a) := (x1 _ _ (by (try simp) <;> omega)).trans (by go_simp)
      have eb : w1.cell? ⟨w.heap.size, 1, none⟩ = some (.int .i64 b) := (x1 _ _ (by (try simp) <;> omega)).trans (by go_simp)
      have ec : w1.cell? ⟨w.heap.size + 1, 0, none⟩ = some (.int .i64 c) := (x1 _ _ (by (try simp) <;> omega)).trans (by go_simp)
      have ed : w1.cell? ⟨w.heap.size + 1, 1, none⟩ = some (.int .i64 d) := (x1 _ _ (by (try simp) <;> omega)).trans (by go_simp)
      clear x1 x2
      go_wp2_with fail
      refine (l02Ok_any c d _ hc hd).mono ?_
      rw [O2.out]
      rintro e w2 ⟨rfl, hb2⟩
      obtain ⟨y1, y2⟩ := bcell hb2
      have hz2 := hb2.size
      have e0' : w2.cell? ⟨w.heap.size + 1 + 1, 0, none⟩ = some (.int .i64 0) := (y1 _ _ (by omega)).trans e0
      have e1' : w2.cell? ⟨w.heap.size + 1 + 1, 1, none⟩ = some (.int .i64 0) := (y1 _ _ (by omega)).trans e1
      have ea' : w2.cell? ⟨w.heap.size, 0, none⟩ = some (.int .i64 a) := (y1 _ _ (by omega)).trans ea
      have eb' : w2.cell? ⟨w.heap.size, 1, none⟩ = some (.int .i64 b) := (y1 _ _ (by omega)).trans eb
      have ec' : w2.cell? ⟨w.heap.size + 1, 0, none⟩ = some (.int .i64 c) := (y1 _ _ (by omega)).trans ec
      have ed' : w2.cell? ⟨w.heap.size + 1, 1, none⟩ = some (.int .i64 d) := (y1 _ _ (by omega)).trans ed
      have f0' : w2.frozen? ⟨w.heap.size + 1 + 1, 0, none⟩ = false := (y2 _ _ (by omega)).trans f0
      have f1' : w2.frozen? ⟨w.heap.size + 1 + 1, 1, none⟩ = false := (y2 _ _ (by omega)).trans f1
      clear y1 y2
      go_wp2_with fail
      refine (specMake_any _ _ _ ⟨by omega, by omega⟩ ⟨by omega, by omega⟩).mono ?_
      rintro e w3 ⟨rfl, hb3⟩
      obtain ⟨y1, y2⟩ := bcell hb3
      have hz3 := hb3.size
      have hbb := nxt (nxt (nxt (a := w) (B := w.heap.size) (by (repeat (first | exact Below.refl _ _ | assumption | refine Below.setCell ?_ (by (try simp) <;> omega) _ | refine Below.alloc ?_ (by (try simp) <;> omega) _ | refine below_drewN_ ?_ | refine Below.drew ?_))) hb1 (by simp; omega)) hb2 (by omega)) hb3 (by omega)
      have k0 : w3.cell? ⟨w.heap.size + 1 + 1, 0, none⟩ = some (.int .i64 0) := (y1 _ _ (by omega)).trans e0'
      have k1 : w3.cell? ⟨w.heap.size + 1 + 1, 1, none⟩ = some (.int .i64 0) := (y1 _ _ (by omega)).trans e1'
      have l0 : w3.frozen? ⟨w.heap.size + 1 + 1, 0, none⟩ = false := (y2 _ _ (by omega)).trans f0'
      have l1 : w3.frozen? ⟨w.heap.size + 1 + 1, 1, none⟩ = false := (y2 _ _ (by omega)).trans f1'
      clear y1 y2
      go_wp2
      refine bodyPost_ret (v := .tuple #[.agg #[.int .i64 (mkN (a*d) (b*c)), .int .i64 (mkD (a*d) (b*c))], .int .i64 (mkC (a*d) (b*c))]) (by simp [results, Try.results24, go_sem, k0, k1]) rfl (FracIs.mk H.out ?_)
      (repeat (first | exact Below.refl _ _ | assumption | refine Below.setCell ?_ (by (try simp) <;> omega) _ | refine Below.alloc ?_ (by (try simp) <;> omega) _ | refine below_drewN_ ?_ | refine Below.drew ?_))

end Go.Proofs.Ytiobdgnhfecjnaa
