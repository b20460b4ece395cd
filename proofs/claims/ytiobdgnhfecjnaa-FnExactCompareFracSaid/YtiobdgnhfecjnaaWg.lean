/- Walks over two fractions: validity of both, order, sum, difference, product, quotient, mediant. -/
import Derived.Test.YtiobdgnhfecjnaaWc
import Derived.Test.YtiobdgnhfecjnaaWm
namespace Go.Proofs.Ytiobdgnhfecjnaa
open Go.RowKit
set_option linter.unusedVariables false

set_option maxHeartbeats 1000000 in
theorem areFracs2_any (a b c d : Int) (w : World) (B : Nat) (hB : B < w.heap.size) (ha : I64 a) (hb : I64 b) (hc : I64 c) (hd : I64 d)
    (c0 : w.cell? ⟨B, 0, none⟩ = some (.int .i64 a)) (c1 : w.cell? ⟨B, 1, none⟩ = some (.int .i64 b)) (c2 : w.cell? ⟨B, 2, none⟩ = some (.int .i64 c)) (c3 : w.cell? ⟨B, 3, none⟩ = some (.int .i64 d)) :
    Calls Try.prog 38 #[.slice (some ⟨B, 0, none⟩) 2 2] w fun e w' => e = .returned (.bool (okF2 a b c d)) ∧ Below w.heap.size w w' := by
  go_enter Try.func38, Try.ntmps38
  go_wp2_with fail
  go_loopw [7] (fun t wr => ∃ k : Nat, k ≤ 2 ∧ t = .int .i64 k ∧ Below w.heap.size w wr ∧ (0 < k → okF a b = true) ∧ (1 < k → okF c d = true)) (fun t _ => 2 - (intOf t).toNat)
  case atStart => exact ⟨0, by omega, rfl, Below.refl _ _, by omega, by omega⟩
  case round =>
    obtain ⟨k, hk, rfl, hbel, hk0, hk1⟩ := hrel
    obtain ⟨x1, x2⟩ := bcell hbel
    have hz := hbel.size
    have K0 := Lib.hid hk0
    have K1 := Lib.hid hk1
    clear hk0 hk1
    obtain rfl | rfl | rfl : k = 0 ∨ k = 1 ∨ k = 2 := by omega
    · cases g : okF a b
      · go_wp2_with (go_at_call 43; refine (isFrac_any _ _ _ ha hb).mono ?_; rintro e w1 ⟨rfl, hb1⟩)
        go_ret
        exact ⟨ret_bool (by simp [okF2, g]), nxt (Below.alloc hbel hz _) hb1 (by simp; omega)⟩
      · go_wp2_with (go_at_call 43; refine (isFrac_any _ _ _ ha hb).mono ?_; rintro e w1 ⟨rfl, hb1⟩)
        go_roundw
        case rel => exact ⟨1, by omega, rfl, nxt (Below.alloc hbel hz _) hb1 (by simp; omega), fun _ => (by simp), by omega⟩
        case measure => simp [intOf]
    · have g1 := K0.out (by omega)
      cases g : okF c d
      · go_wp2_with (go_at_call 43; refine (isFrac_any _ _ _ hc hd).mono ?_; rintro e w1 ⟨rfl, hb1⟩)
        go_ret
        exact ⟨ret_bool (by simp [okF2, g]), nxt (Below.alloc hbel hz _) hb1 (by simp; omega)⟩
      · go_wp2_with (go_at_call 43; refine (isFrac_any _ _ _ hc hd).mono ?_; rintro e w1 ⟨rfl, hb1⟩)
        go_roundw
        case rel => exact ⟨2, by omega, rfl, nxt (Below.alloc hbel hz _) hb1 (by simp; omega), fun _ => g1, fun _ => (by simp)⟩
        case measure => simp [intOf]
    · have g1 := K0.out (by omega)
      have g2 := K1.out (by omega)
      have H := Lib.hid (show true = okF2 a b c d by simp [okF2, g1, g2])
      clear g1 g2
      go_wp2
      go_ret
      exact ⟨ret_bool H.out, hbel⟩
/-- Numerators and denominators of valid fractions, multiplied. -/
theorem prod_in {n d : Int} (h1 : -1000000000 ≤ n) (h2 : n ≤ 1000000000) (h3 : 1 ≤ d) (h4 : d ≤ 1000000) : -1000000000000000 ≤ n * d ∧ n * d ≤ 1000000000000000 := by
  have a : (n * d).natAbs ≤ 1000000000 * 1000000 := by rw [Int.natAbs_mul]; exact Nat.mul_le_mul (by omega) (by omega)
  omega
theorem prod_dd {n d : Int} (h1 : 1 ≤ n) (h2 : n ≤ 1000000) (h3 : 1 ≤ d) (h4 : d ≤ 1000000) : 1 ≤ n * d ∧ n * d ≤ 1000000000000 := by
  have a : (n * d).natAbs ≤ 1000000 * 1000000 := by rw [Int.natAbs_mul]; exact Nat.mul_le_mul (by omega) (by omega)
  have := Int.mul_pos (a := n) (b := d) (by omega) (by omega)
  omega
theorem prod_nn {n d : Int} (h1 : -1000000000 ≤ n) (h2 : n ≤ 1000000000) (h3 : -1000000000 ≤ d) (h4 : d ≤ 1000000000) : -1000000000000000000 ≤ n * d ∧ n * d ≤ 1000000000000000000 := by
  have a : (n * d).natAbs ≤ 1000000000 * 1000000000 := by rw [Int.natAbs_mul]; exact Nat.mul_le_mul (by omega) (by omega)
  omega

/-- What an operation on two fractions gives: nothing if one of them is not valid. -/
def opN (g : Bool) (n d : Int) : Int := if g then mkN n d else 0
def opD (g : Bool) (n d : Int) : Int := if g then mkD n d else 0
def opC (g : Bool) (n d : Int) : Int := if g then mkC n d else 1
theorem op_no (n d : Int) : (0 : Int) = opN false n d ∧ (0 : Int) = opD false n d ∧ (1 : Int) = opC false n d := ⟨rfl, rfl, rfl⟩
theorem op_yes (n d : Int) : mkN n d = opN true n d ∧ mkD n d = opD true n d ∧ mkC n d = opC true n d := ⟨rfl, rfl, rfl⟩
def FracIs (n d code : Int) (w : World) (e : Ending) (w' : World) : Prop := e = .returned (.tuple #[.agg #[.int .i64 n, .int .i64 d], .int .i64 code]) ∧ Below w.heap.size w w'
theorem FracIs.mk {n d code n' d' c' : Int} {w w' : World} (h : n' = n ∧ d' = d ∧ c' = code) (hb : Below w.heap.size w w') : FracIs n d code w (.returned (.tuple #[.agg #[.int .i64 n', .int .i64 d'], .int .i64 c'])) w' :=
  ⟨ret_frac h.1 h.2.1 h.2.2, hb⟩

set_option maxHeartbeats 1000000 in
theorem implAdd_any (a b c d : Int) (w : World) (ha : I64 a) (hb : I64 b) (hc : I64 c) (hd : I64 d) :
    Calls Try.prog 16 #[.agg #[.int .i64 a, .int .i64 b], .agg #[.int .i64 c, .int .i64 d]] w (FracIs (opN (okF2 a b c d) (a*d+c*b) (b*d)) (opD (okF2 a b c d) (a*d+c*b) (b*d)) (opC (okF2 a b c d) (a*d+c*b) (b*d)) w) := by
  cases g : okF2 a b c d
  · have H := Lib.hid (op_no (a*d+c*b) (b*d))
    have G := Lib.hid g
    clear g
    go_enter Try.func16, Try.ntmps16
    go_wp2_with fail
    refine (areFracs2_any a b c d _ _ (by simp) ha hb hc hd (by go_simp) (by go_simp) (by go_simp) (by go_simp)).mono ?_
    rw [G.out]
    rintro e w1 ⟨rfl, hb1⟩
    obtain ⟨x1, x2⟩ := bcell hb1
    have hz := hb1.size
    simp at hz
    have e0 : w1.cell? ⟨w.heap.size + 1 + 1, 0, none⟩ = some (.int .i64 0) := (x1 _ _ (by (try simp) <;> omega)).trans (by go_simp)
    have e1 : w1.cell? ⟨w.heap.size + 1 + 1, 1, none⟩ = some (.int .i64 0) := (x1 _ _ (by (try simp) <;> omega)).trans (by go_simp)
    have f0 : w1.frozen? ⟨w.heap.size + 1 + 1, 0, none⟩ = false := (x2 _ _ (by simp)).trans (by go_simp)
    have f1 : w1.frozen? ⟨w.heap.size + 1 + 1, 1, none⟩ = false := (x2 _ _ (by simp)).trans (by go_simp)
    clear x1 x2
    go_wp2
    refine bodyPost_ret (v := .tuple #[.agg #[.int .i64 0, .int .i64 0], .int .i64 1]) (by simp [results, Try.results16, go_sem, e0, e1]) rfl (FracIs.mk H.out ?_)
    have hbb := nxt (a := w) (B := w.heap.size) (by (repeat (first | exact Below.refl _ _ | assumption | refine Below.setCell ?_ (by (try simp) <;> omega) _ | refine Below.alloc ?_ (by (try simp) <;> omega) _ | refine below_drewN_ ?_ | refine Below.drew ?_))) hb1 (by simp; omega)
    (repeat (first | exact Below.refl _ _ | assumption | refine Below.setCell ?_ (by (try simp) <;> omega) _ | refine Below.alloc ?_ (by (try simp) <;> omega) _ | refine below_drewN_ ?_ | refine Below.drew ?_))
  · have H := Lib.hid (op_yes (a*d+c*b) (b*d))
    obtain ⟨o1, o2⟩ := okF2_inv g
    obtain ⟨b1, b2, a1, a2, -⟩ := okF_inv o1
    obtain ⟨d1, d2, c1, c2, -⟩ := okF_inv o2
    obtain ⟨p1, p2⟩ := prod_in a1 a2 d1 d2
    obtain ⟨q1, q2⟩ := prod_in c1 c2 b1 b2
    obtain ⟨r1, r2⟩ := prod_dd b1 b2 d1 d2
    obtain ⟨s1, s2⟩ := prod_nn a1 a2 c1 c2
    have G := Lib.hid g
    clear g o1 o2
    go_enter Try.func16, Try.ntmps16
    go_wp2_with fail
    refine (areFracs2_any a b c d _ _ (by simp) ha hb hc hd (by go_simp) (by go_simp) (by go_simp) (by go_simp)).mono ?_
    rw [G.out]
    rintro e w1 ⟨rfl, hb1⟩
    obtain ⟨x1, x2⟩ := bcell hb1
    have hz := hb1.size
    simp at hz
    have e0 : w1.cell? ⟨w.heap.size + 1 + 1, 0, none⟩ = some (.int .i64 0) := (x1 _ _ (by (try simp) <;> omega)).trans (by go_simp)
    have e1 : w1.cell? ⟨w.heap.size + 1 + 1, 1, none⟩ = some (.int .i64 0) := (x1 _ _ (by (try simp) <;> omega)).trans (by go_simp)
    have f0 : w1.frozen? ⟨w.heap.size + 1 + 1, 0, none⟩ = false := (x2 _ _ (by simp)).trans (by go_simp)
    have f1 : w1.frozen? ⟨w.heap.size + 1 + 1, 1, none⟩ = false := (x2 _ _ (by simp)).trans (by go_simp)
    have ea : w1.cell? ⟨w.heap.size, 0, none⟩ = some (.int .i64 a) := (x1 _ _ (by (try simp) <;> omega)).trans (by go_simp)
    have eb : w1.cell? ⟨w.heap.size, 1, none⟩ = some (.int .i64 b) := (x1 _ _ (by (try simp) <;> omega)).trans (by go_simp)
    have ec : w1.cell? ⟨w.heap.size + 1, 0, none⟩ = some (.int .i64 c) := (x1 _ _ (by (try simp) <;> omega)).trans (by go_simp)
    have ed : w1.cell? ⟨w.heap.size + 1, 1, none⟩ = some (.int .i64 d) := (x1 _ _ (by (try simp) <;> omega)).trans (by go_simp)
    clear x1 x2
    go_wp2_with fail
    refine (implMake_any _ _ _ ⟨by omega, by omega⟩ ⟨by omega, by omega⟩).mono ?_
    rintro e w2 ⟨rfl, hb2⟩
    obtain ⟨y1, y2⟩ := bcell hb2
    have hz2 := hb2.size
    have hbb := nxt (nxt (a := w) (B := w.heap.size) (by (repeat (first | exact Below.refl _ _ | assumption | refine Below.setCell ?_ (by (try simp) <;> omega) _ | refine Below.alloc ?_ (by (try simp) <;> omega) _ | refine below_drewN_ ?_ | refine Below.drew ?_))) hb1 (by simp; omega)) hb2 (by omega)
    have k0 : w2.cell? ⟨w.heap.size + 1 + 1, 0, none⟩ = some (.int .i64 0) := (y1 _ _ (by omega)).trans e0
    have k1 : w2.cell? ⟨w.heap.size + 1 + 1, 1, none⟩ = some (.int .i64 0) := (y1 _ _ (by omega)).trans e1
    have l0 : w2.frozen? ⟨w.heap.size + 1 + 1, 0, none⟩ = false := (y2 _ _ (by omega)).trans f0
    have l1 : w2.frozen? ⟨w.heap.size + 1 + 1, 1, none⟩ = false := (y2 _ _ (by omega)).trans f1
    clear y1 y2
    go_wp2
    refine bodyPost_ret (v := .tuple #[.agg #[.int .i64 (mkN (a*d+c*b) (b*d)), .int .i64 (mkD (a*d+c*b) (b*d))], .int .i64 (mkC (a*d+c*b) (b*d))]) (by simp [results, Try.results16, go_sem, k0, k1]) rfl (FracIs.mk H.out ?_)
    (repeat (first | exact Below.refl _ _ | assumption | refine Below.setCell ?_ (by (try simp) <;> omega) _ | refine Below.alloc ?_ (by (try simp) <;> omega) _ | refine below_drewN_ ?_ | refine Below.drew ?_))
set_option maxHeartbeats 1000000 in
theorem implSub_any (a b c d : Int) (w : World) (ha : I64 a) (hb : I64 b) (hc : I64 c) (hd : I64 d) :
    Calls Try.prog 23 #[.agg #[.int .i64 a, .int .i64 b], .agg #[.int .i64 c, .int .i64 d]] w (FracIs (opN (okF2 a b c d) (a*d-c*b) (b*d)) (opD (okF2 a b c d) (a*d-c*b) (b*d)) (opC (okF2 a b c d) (a*d-c*b) (b*d)) w) := by
  cases g : okF2 a b c d
  · have H := Lib.hid (op_no (a*d-c*b) (b*d))
    have G := Lib.hid g
    clear g
    go_enter Try.func23, Try.ntmps23
    go_wp2_with fail
    refine (areFracs2_any a b c d _ _ (by simp) ha hb hc hd (by go_simp) (by go_simp) (by go_simp) (by go_simp)).mono ?_
    rw [G.out]
    rintro e w1 ⟨rfl, hb1⟩
    obtain ⟨x1, x2⟩ := bcell hb1
    have hz := hb1.size
    simp at hz
    have e0 : w1.cell? ⟨w.heap.size + 1 + 1, 0, none⟩ = some (.int .i64 0) := (x1 _ _ (by (try simp) <;> omega)).trans (by go_simp)
    have e1 : w1.cell? ⟨w.heap.size + 1 + 1, 1, none⟩ = some (.int .i64 0) := (x1 _ _ (by (try simp) <;> omega)).trans (by go_simp)
    have f0 : w1.frozen? ⟨w.heap.size + 1 + 1, 0, none⟩ = false := (x2 _ _ (by simp)).trans (by go_simp)
    have f1 : w1.frozen? ⟨w.heap.size + 1 + 1, 1, none⟩ = false := (x2 _ _ (by simp)).trans (by go_simp)
    clear x1 x2
    go_wp2
    refine bodyPost_ret (v := .tuple #[.agg #[.int .i64 0, .int .i64 0], .int .i64 1]) (by simp [results, Try.results23, go_sem, e0, e1]) rfl (FracIs.mk H.out ?_)
    have hbb := nxt (a := w) (B := w.heap.size) (by (repeat (first | exact Below.refl _ _ | assumption | refine Below.setCell ?_ (by (try simp) <;> omega) _ | refine Below.alloc ?_ (by (try simp) <;> omega) _ | refine below_drewN_ ?_ | refine Below.drew ?_))) hb1 (by simp; omega)
    (repeat (first | exact Below.refl _ _ | assumption | refine Below.setCell ?_ (by (try simp) <;> omega) _ | refine Below.alloc ?_ (by (try simp) <;> omega) _ | refine below_drewN_ ?_ | refine Below.drew ?_))
  · have H := Lib.hid (op_yes (a*d-c*b) (b*d))
    obtain ⟨o1, o2⟩ := okF2_inv g
    obtain ⟨b1, b2, a1, a2, -⟩ := okF_inv o1
    obtain ⟨d1, d2, c1, c2, -⟩ := okF_inv o2
    obtain ⟨p1, p2⟩ := prod_in a1 a2 d1 d2
    obtain ⟨q1, q2⟩ := prod_in c1 c2 b1 b2
    obtain ⟨r1, r2⟩ := prod_dd b1 b2 d1 d2
    obtain ⟨s1, s2⟩ := prod_nn a1 a2 c1 c2
    have G := Lib.hid g
    clear g o1 o2
    go_enter Try.func23, Try.ntmps23
    go_wp2_with fail
    refine (areFracs2_any a b c d _ _ (by simp) ha hb hc hd (by go_simp) (by go_simp) (by go_simp) (by go_simp)).mono ?_
    rw [G.out]
    rintro e w1 ⟨rfl, hb1⟩
    obtain ⟨x1, x2⟩ := bcell hb1
    have hz := hb1.size
    simp at hz
    have e0 : w1.cell? ⟨w.heap.size + 1 + 1, 0, none⟩ = some (.int .i64 0) := (x1 _ _ (by (try simp) <;> omega)).trans (by go_simp)
    have e1 : w1.cell? ⟨w.heap.size + 1 + 1, 1, none⟩ = some (.int .i64 0) := (x1 _ _ (by (try simp) <;> omega)).trans (by go_simp)
    have f0 : w1.frozen? ⟨w.heap.size + 1 + 1, 0, none⟩ = false := (x2 _ _ (by simp)).trans (by go_simp)
    have f1 : w1.frozen? ⟨w.heap.size + 1 + 1, 1, none⟩ = false := (x2 _ _ (by simp)).trans (by go_simp)
    have ea : w1.cell? ⟨w.heap.size, 0, none⟩ = some (.int .i64 a) := (x1 _ _ (by (try simp) <;> omega)).trans (by go_simp)
    have eb : w1.cell? ⟨w.heap.size, 1, none⟩ = some (.int .i64 b) := (x1 _ _ (by (try simp) <;> omega)).trans (by go_simp)
    have ec : w1.cell? ⟨w.heap.size + 1, 0, none⟩ = some (.int .i64 c) := (x1 _ _ (by (try simp) <;> omega)).trans (by go_simp)
    have ed : w1.cell? ⟨w.heap.size + 1, 1, none⟩ = some (.int .i64 d) := (x1 _ _ (by (try simp) <;> omega)).trans (by go_simp)
    clear x1 x2
    go_wp2_with fail
    refine (implMake_any _ _ _ ⟨by omega, by omega⟩ ⟨by omega, by omega⟩).mono ?_
    rintro e w2 ⟨rfl, hb2⟩
    obtain ⟨y1, y2⟩ := bcell hb2
    have hz2 := hb2.size
    have hbb := nxt (nxt (a := w) (B := w.heap.size) (by (repeat (first | exact Below.refl _ _ | assumption | refine Below.setCell ?_ (by (try simp) <;> omega) _ | refine Below.alloc ?_ (by (try simp) <;> omega) _ | refine below_drewN_ ?_ | refine Below.drew ?_))) hb1 (by simp; omega)) hb2 (by omega)
    have k0 : w2.cell? ⟨w.heap.size + 1 + 1, 0, none⟩ = some (.int .i64 0) := (y1 _ _ (by omega)).trans e0
    have k1 : w2.cell? ⟨w.heap.size + 1 + 1, 1, none⟩ = some (.int .i64 0) := (y1 _ _ (by omega)).trans e1
    have l0 : w2.frozen? ⟨w.heap.size + 1 + 1, 0, none⟩ = false := (y2 _ _ (by omega)).trans f0
    have l1 : w2.frozen? ⟨w.heap.size + 1 + 1, 1, none⟩ = false := (y2 _ _ (by omega)).trans f1
    clear y1 y2
    go_wp2
    refine bodyPost_ret (v := .tuple #[.agg #[.int .i64 (mkN (a*d-c*b) (b*d)), .int .i64 (mkD (a*d-c*b) (b*d))], .int .i64 (mkC (a*d-c*b) (b*d))]) (by simp [results, Try.results23, go_sem, k0, k1]) rfl (FracIs.mk H.out ?_)
    (repeat (first | exact Below.refl _ _ | assumption | refine Below.setCell ?_ (by (try simp) <;> omega) _ | refine Below.alloc ?_ (by (try simp) <;> omega) _ | refine below_drewN_ ?_ | refine Below.drew ?_))
set_option maxHeartbeats 1000000 in
theorem implMul_any (a b c d : Int) (w : World) (ha : I64 a) (hb : I64 b) (hc : I64 c) (hd : I64 d) :
    Calls Try.prog 21 #[.agg #[.int .i64 a, .int .i64 b], .agg #[.int .i64 c, .int .i64 d]] w (FracIs (opN (okF2 a b c d) (a*c) (b*d)) (opD (okF2 a b c d) (a*c) (b*d)) (opC (okF2 a b c d) (a*c) (b*d)) w) := by
  cases g : okF2 a b c d
  · have H := Lib.hid (op_no (a*c) (b*d))
    have G := Lib.hid g
    clear g
    go_enter Try.func21, Try.ntmps21
    go_wp2_with fail
    refine (areFracs2_any a b c d _ _ (by simp) ha hb hc hd (by go_simp) (by go_simp) (by go_simp) (by go_simp)).mono ?_
    rw [G.out]
    rintro e w1 ⟨rfl, hb1⟩
    obtain ⟨x1, x2⟩ := bcell hb1
    have hz := hb1.size
    simp at hz
    have e0 : w1.cell? ⟨w.heap.size + 1 + 1, 0, none⟩ = some (.int .i64 0) := (x1 _ _ (by (try simp) <;> omega)).trans (by go_simp)
    have e1 : w1.cell? ⟨w.heap.size + 1 + 1, 1, none⟩ = some (.int .i64 0) := (x1 _ _ (by (try simp) <;> omega)).trans (by go_simp)
    have f0 : w1.frozen? ⟨w.heap.size + 1 + 1, 0, none⟩ = false := (x2 _ _ (by simp)).trans (by go_simp)
    have f1 : w1.frozen? ⟨w.heap.size + 1 + 1, 1, none⟩ = false := (x2 _ _ (by simp)).trans (by go_simp)
    clear x1 x2
    go_wp2
    refine bodyPost_ret (v := .tuple #[.agg #[.int .i64 0, .int .i64 0], .int .i64 1]) (by simp [results, Try.results21, go_sem, e0, e1]) rfl (FracIs.mk H.out ?_)
    have hbb := nxt (a := w) (B := w.heap.size) (by (repeat (first | exact Below.refl _ _ | assumption | refine Below.setCell ?_ (by (try simp) <;> omega) _ | refine Below.alloc ?_ (by (try simp) <;> omega) _ | refine below_drewN_ ?_ | refine Below.drew ?_))) hb1 (by simp; omega)
    (repeat (first | exact Below.refl _ _ | assumption | refine Below.setCell ?_ (by (try simp) <;> omega) _ | refine Below.alloc ?_ (by (try simp) <;> omega) _ | refine below_drewN_ ?_ | refine Below.drew ?_))
  · have H := Lib.hid (op_yes (a*c) (b*d))
    obtain ⟨o1, o2⟩ := okF2_inv g
    obtain ⟨b1, b2, a1, a2, -⟩ := okF_inv o1
    obtain ⟨d1, d2, c1, c2, -⟩ := okF_inv o2
    obtain ⟨p1, p2⟩ := prod_in a1 a2 d1 d2
    obtain ⟨q1, q2⟩ := prod_in c1 c2 b1 b2
    obtain ⟨r1, r2⟩ := prod_dd b1 b2 d1 d2
    obtain ⟨s1, s2⟩ := prod_nn a1 a2 c1 c2
    have G := Lib.hid g
    clear g o1 o2
    go_enter Try.func21, Try.ntmps21
    go_wp2_with fail
    refine (areFracs2_any a b c d _ _ (by simp) ha hb hc hd (by go_simp) (by go_simp) (by go_simp) (by go_simp)).mono ?_
    rw [G.out]
    rintro e w1 ⟨rfl, hb1⟩
    obtain ⟨x1, x2⟩ := bcell hb1
    have hz := hb1.size
    simp at hz
    have e0 : w1.cell? ⟨w.heap.size + 1 + 1, 0, none⟩ = some (.int .i64 0) := (x1 _ _ (by (try simp) <;> omega)).trans (by go_simp)
    have e1 : w1.cell? ⟨w.heap.size + 1 + 1, 1, none⟩ = some (.int .i64 0) := (x1 _ _ (by (try simp) <;> omega)).trans (by go_simp)
    have f0 : w1.frozen? ⟨w.heap.size + 1 + 1, 0, none⟩ = false := (x2 _ _ (by simp)).trans (by go_simp)
    have f1 : w1.frozen? ⟨w.heap.size + 1 + 1, 1, none⟩ = false := (x2 _ _ (by simp)).trans (by go_simp)
    have ea : w1.cell? ⟨w.heap.size, 0, none⟩ = some (.int .i64 a) := (x1 _ _ (by (try simp) <;> omega)).trans (by go_simp)
    have eb : w1.cell? ⟨w.heap.size, 1, none⟩ = some (.int .i64 b) := (x1 _ _ (by (try simp) <;> omega)).trans (by go_simp)
    have ec : w1.cell? ⟨w.heap.size + 1, 0, none⟩ = some (.int .i64 c) := (x1 _ _ (by (try simp) <;> omega)).trans (by go_simp)
    have ed : w1.cell? ⟨w.heap.size + 1, 1, none⟩ = some (.int .i64 d) := (x1 _ _ (by (try simp) <;> omega)).trans (by go_simp)
    clear x1 x2
    go_wp2_with fail
    refine (implMake_any _ _ _ ⟨by omega, by omega⟩ ⟨by omega, by omega⟩).mono ?_
    rintro e w2 ⟨rfl, hb2⟩
    obtain ⟨y1, y2⟩ := bcell hb2
    have hz2 := hb2.size
    have hbb := nxt (nxt (a := w) (B := w.heap.size) (by (repeat (first | exact Below.refl _ _ | assumption | refine Below.setCell ?_ (by (try simp) <;> omega) _ | refine Below.alloc ?_ (by (try simp) <;> omega) _ | refine below_drewN_ ?_ | refine Below.drew ?_))) hb1 (by simp; omega)) hb2 (by omega)
    have k0 : w2.cell? ⟨w.heap.size + 1 + 1, 0, none⟩ = some (.int .i64 0) := (y1 _ _ (by omega)).trans e0
    have k1 : w2.cell? ⟨w.heap.size + 1 + 1, 1, none⟩ = some (.int .i64 0) := (y1 _ _ (by omega)).trans e1
    have l0 : w2.frozen? ⟨w.heap.size + 1 + 1, 0, none⟩ = false := (y2 _ _ (by omega)).trans f0
    have l1 : w2.frozen? ⟨w.heap.size + 1 + 1, 1, none⟩ = false := (y2 _ _ (by omega)).trans f1
    clear y1 y2
    go_wp2
    refine bodyPost_ret (v := .tuple #[.agg #[.int .i64 (mkN (a*c) (b*d)), .int .i64 (mkD (a*c) (b*d))], .int .i64 (mkC (a*c) (b*d))]) (by simp [results, Try.results21, go_sem, k0, k1]) rfl (FracIs.mk H.out ?_)
    (repeat (first | exact Below.refl _ _ | assumption | refine Below.setCell ?_ (by (try simp) <;> omega) _ | refine Below.alloc ?_ (by (try simp) <;> omega) _ | refine below_drewN_ ?_ | refine Below.drew ?_))
set_option maxHeartbeats 1000000 in
theorem implMed_any (a b c d : Int) (w : World) (ha : I64 a) (hb : I64 b) (hc : I64 c) (hd : I64 d) :
    Calls Try.prog 19 #[.agg #[.int .i64 a, .int .i64 b], .agg #[.int .i64 c, .int .i64 d]] w (FracIs (opN (okF2 a b c d) (a+c) (b+d)) (opD (okF2 a b c d) (a+c) (b+d)) (opC (okF2 a b c d) (a+c) (b+d)) w) := by
  cases g : okF2 a b c d
  · have H := Lib.hid (op_no (a+c) (b+d))
    have G := Lib.hid g
    clear g
    go_enter Try.func19, Try.ntmps19
    go_wp2_with fail
    refine (areFracs2_any a b c d _ _ (by simp) ha hb hc hd (by go_simp) (by go_simp) (by go_simp) (by go_simp)).mono ?_
    rw [G.out]
    rintro e w1 ⟨rfl, hb1⟩
    obtain ⟨x1, x2⟩ := bcell hb1
    have hz := hb1.size
    simp at hz
    have e0 : w1.cell? ⟨w.heap.size + 1 + 1, 0, none⟩ = some (.int .i64 0) := (x1 _ _ (by (try simp) <;> omega)).trans (by go_simp)
    have e1 : w1.cell? ⟨w.heap.size + 1 + 1, 1, none⟩ = some (.int .i64 0) := (x1 _ _ (by (try simp) <;> omega)).trans (by go_simp)
    have f0 : w1.frozen? ⟨w.heap.size + 1 + 1, 0, none⟩ = false := (x2 _ _ (by simp)).trans (by go_simp)
    have f1 : w1.frozen? ⟨w.heap.size + 1 + 1, 1, none⟩ = false := (x2 _ _ (by simp)).trans (by go_simp)
    clear x1 x2
    go_wp2
    refine bodyPost_ret (v := .tuple #[.agg #[.int .i64 0, .int .i64 0], .int .i64 1]) (by simp [results, Try.results19, go_sem, e0, e1]) rfl (FracIs.mk H.out ?_)
    have hbb := nxt (a := w) (B := w.heap.size) (by (repeat (first | exact Below.refl _ _ | assumption | refine Below.setCell ?_ (by (try simp) <;> omega) _ | refine Below.alloc ?_ (by (try simp) <;> omega) _ | refine below_drewN_ ?_ | refine Below.drew ?_))) hb1 (by simp; omega)
    (repeat (first | exact Below.refl _ _ | assumption | refine Below.setCell ?_ (by (try simp) <;> omega) _ | refine Below.alloc ?_ (by (try simp) <;> omega) _ | refine below_drewN_ ?_ | refine Below.drew ?_))
  · have H := Lib.hid (op_yes (a+c) (b+d))
    obtain ⟨o1, o2⟩ := okF2_inv g
    obtain ⟨b1, b2, a1, a2, -⟩ := okF_inv o1
    obtain ⟨d1, d2, c1, c2, -⟩ := okF_inv o2
    obtain ⟨p1, p2⟩ := prod_in a1 a2 d1 d2
    obtain ⟨q1, q2⟩ := prod_in c1 c2 b1 b2
    obtain ⟨r1, r2⟩ := prod_dd b1 b2 d1 d2
    obtain ⟨s1, s2⟩ := prod_nn a1 a2 c1 c2
    have G := Lib.hid g
    clear g o1 o2
    go_enter Try.func19, Try.ntmps19
    go_wp2_with fail
    refine (areFracs2_any a b c d _ _ (by simp) ha hb hc hd (by go_simp) (by go_simp) (by go_simp) (by go_simp)).mono ?_
    rw [G.out]
    rintro e w1 ⟨rfl, hb1⟩
    obtain ⟨x1, x2⟩ := bcell hb1
    have hz := hb1.size
    simp at hz
    have e0 : w1.cell? ⟨w.heap.size + 1 + 1, 0, none⟩ = some (.int .i64 0) := (x1 _ _ (by (try simp) <;> omega)).trans (by go_simp)
    have e1 : w1.cell? ⟨w.heap.size + 1 + 1, 1, none⟩ = some (.int .i64 0) := (x1 _ _ (by (try simp) <;> omega)).trans (by go_simp)
    have f0 : w1.frozen? ⟨w.heap.size + 1 + 1, 0, none⟩ = false := (x2 _ _ (by simp)).trans (by go_simp)
    have f1 : w1.frozen? ⟨w.heap.size + 1 + 1, 1, none⟩ = false := (x2 _ _ (by simp)).trans (by go_simp)
    have ea : w1.cell? ⟨w.heap.size, 0, none⟩ = some (.int .i64 a) := (x1 _ _ (by (try simp) <;> omega)).trans (by go_simp)
    have eb : w1.cell? ⟨w.heap.size, 1, none⟩ = some (.int .i64 b) := (x1 _ _ (by (try simp) <;> omega)).trans (by go_simp)
    have ec : w1.cell? ⟨w.heap.size + 1, 0, none⟩ = some (.int .i64 c) := (x1 _ _ (by (try simp) <;> omega)).trans (by go_simp)
    have ed : w1.cell? ⟨w.heap.size + 1, 1, none⟩ = some (.int .i64 d) := (x1 _ _ (by (try simp) <;> omega)).trans (by go_simp)
    clear x1 x2
    go_wp2_with fail
    refine (implMake_any _ _ _ ⟨by omega, by omega⟩ ⟨by omega, by omega⟩).mono ?_
    rintro e w2 ⟨rfl, hb2⟩
    obtain ⟨y1, y2⟩ := bcell hb2
    have hz2 := hb2.size
    have hbb := nxt (nxt (a := w) (B := w.heap.size) (by (repeat (first | exact Below.refl _ _ | assumption | refine Below.setCell ?_ (by (try simp) <;> omega) _ | refine Below.alloc ?_ (by (try simp) <;> omega) _ | refine below_drewN_ ?_ | refine Below.drew ?_))) hb1 (by simp; omega)) hb2 (by omega)
    have k0 : w2.cell? ⟨w.heap.size + 1 + 1, 0, none⟩ = some (.int .i64 0) := (y1 _ _ (by omega)).trans e0
    have k1 : w2.cell? ⟨w.heap.size + 1 + 1, 1, none⟩ = some (.int .i64 0) := (y1 _ _ (by omega)).trans e1
    have l0 : w2.frozen? ⟨w.heap.size + 1 + 1, 0, none⟩ = false := (y2 _ _ (by omega)).trans f0
    have l1 : w2.frozen? ⟨w.heap.size + 1 + 1, 1, none⟩ = false := (y2 _ _ (by omega)).trans f1
    clear y1 y2
    go_wp2
    refine bodyPost_ret (v := .tuple #[.agg #[.int .i64 (mkN (a+c) (b+d)), .int .i64 (mkD (a+c) (b+d))], .int .i64 (mkC (a+c) (b+d))]) (by simp [results, Try.results19, go_sem, k0, k1]) rfl (FracIs.mk H.out ?_)
    (repeat (first | exact Below.refl _ _ | assumption | refine Below.setCell ?_ (by (try simp) <;> omega) _ | refine Below.alloc ?_ (by (try simp) <;> omega) _ | refine below_drewN_ ?_ | refine Below.drew ?_))

end Go.Proofs.Ytiobdgnhfecjnaa
