/- Plain facts on best approximations, without any program. -/
import Derived.Test.YtiobdgnhfecjnaaPb
namespace Go.Proofs.Ytiobdgnhfecjnaa
open Go.RowKit
set_option linter.unusedVariables false

def errI (N D a b : Int) : Int := absI (N * b - a * D)
theorem errI_lo (N D a b : Int) : 0 ≤ errI N D a b := absI_lo _

/-- P / Q is the first of the best among the candidates C: by distance, then by denominator, then by numerator. -/
def BestAt (N D : Int) (C : Int → Int → Prop) (P Q : Int) : Prop :=
  1 ≤ Q ∧ C P Q ∧ ∀ a b, C a b → 1 ≤ b → errI N D P Q * b < errI N D a b * Q ∨ (errI N D P Q * b = errI N D a b * Q ∧ (Q < b ∨ (Q = b ∧ P ≤ a)))

theorem BestAt.unique {N D : Int} {C C' : Int → Int → Prop} {P Q P' Q' : Int} (h : BestAt N D C P Q) (h' : BestAt N D C' P' Q') (hc : C P' Q') (hc' : C' P Q) : P = P' ∧ Q = Q' := by
  have a := h.2.2 P' Q' hc h'.1
  have b := h'.2.2 P Q hc' h.1
  omega

theorem one_le_mul {a b : Int} (ha : 1 ≤ a) (hb : 1 ≤ b) : 1 ≤ a * b := by have := Int.mul_pos (a := a) (b := b) (by omega) (by omega); omega

theorem abs_of_sign {s x : Int} (hs : s = 1 ∨ s = -1) (hx : 0 ≤ x) : absI (s * x) = x := by
  rcases hs with rfl | rfl
  · rw [Int.one_mul]; exact absI_of_nonneg hx
  · unfold absI; omega

/-- Two neighbours around N / D: which of them is the best. -/
theorem best_semi {N D M p q p' q' s d e : Int} (hs : s = 1 ∨ s = -1) (hdet : p * q' - p' * q = s)
    (h1 : N * q - p * D = -(s * d)) (h2 : N * q' - p' * D = s * e) (hd : 0 < d) (hde : d ≤ e)
    (hq : 1 ≤ q) (hqM : q ≤ M) (hq' : 1 ≤ q') (hqM' : q' ≤ M) (hM : M < q + q') (htie : q = q' → d < e ∨ p ≤ p') :
    (2 * (d * q') ≤ D → BestAt N D (fun _ b => 1 ≤ b ∧ b ≤ M) p q) ∧ (D < 2 * (d * q') → BestAt N D (fun _ b => 1 ≤ b ∧ b ≤ M) p' q') := by
  have hss : s * s = 1 := by rcases hs with rfl | rfl <;> rfl
  have hD : D = q * e + q' * d := by
    have e1 : s * D = s * (q * e + q' * d) := by grind
    rcases hs with rfl | rfl <;> omega
  have hErr1 : errI N D p q = d := by
    unfold errI
    rw [h1, show -(s * d) = s * -d by rw [Int.mul_neg]]
    rcases hs with rfl | rfl
    · unfold absI; omega
    · unfold absI; omega
  have hErr2 : errI N D p' q' = e := by
    unfold errI
    rw [h2]
    exact abs_of_sign hs (by omega)
  have hdq : 1 ≤ d * q' := one_le_mul (by omega) (by omega)
  have hqe : 1 ≤ q * e := one_le_mul (by omega) (by omega)
  have hqd : 1 ≤ q' * d := by rw [Int.mul_comm]; exact hdq
  have hDpos : 1 ≤ D := by omega
  -- any candidate in the base of the two neighbours
  have hbase : ∀ a b : Int, ∃ x y : Int, a = x * p + y * p' ∧ b = x * q + y * q' ∧ N * b - a * D = s * (y * e - x * d) := by
    intro a b
    refine ⟨s * (a * q' - b * p'), s * (b * p - a * q), ?_, ?_, ?_⟩
    · grind
    · grind
    · grind
  have hcase : ∀ a b : Int, 1 ≤ b → b ≤ M → ∃ x y : Int, a = x * p + y * p' ∧ b = x * q + y * q' ∧
      ((1 ≤ x ∧ y ≤ 0 ∧ errI N D a b = x * d - y * e) ∨ (x ≤ 0 ∧ 1 ≤ y ∧ errI N D a b = y * e - x * d)) := by
    intro a b hb1 hbM
    obtain ⟨x, y, ha, hb, hu⟩ := hbase a b
    refine ⟨x, y, ha, hb, ?_⟩
    by_cases hx : 1 ≤ x
    · by_cases hy : 1 ≤ y
      · exfalso
        have k1 : q ≤ x * q := by have := Int.mul_le_mul_of_nonneg_right hx (show (0 : Int) ≤ q by omega); omega
        have k2 : q' ≤ y * q' := by have := Int.mul_le_mul_of_nonneg_right hy (show (0 : Int) ≤ q' by omega); omega
        omega
      · left
        refine ⟨hx, by omega, ?_⟩
        have k1 : 0 ≤ x * d := Int.mul_nonneg (by omega) (by omega)
        have k2 : y * e ≤ 0 := Int.mul_nonpos_of_nonpos_of_nonneg (by omega) (by omega)
        unfold errI
        rw [hu]
        rcases hs with rfl | rfl <;> (unfold absI; omega)
    · by_cases hy : 1 ≤ y
      · right
        refine ⟨by omega, hy, ?_⟩
        have k1 : x * d ≤ 0 := Int.mul_nonpos_of_nonpos_of_nonneg (by omega) (by omega)
        have k2 : 0 ≤ y * e := Int.mul_nonneg (by omega) (by omega)
        unfold errI
        rw [hu]
        rcases hs with rfl | rfl <;> (unfold absI; omega)
      · exfalso
        have k1 : x * q ≤ 0 := Int.mul_nonpos_of_nonpos_of_nonneg (by omega) (by omega)
        have k2 : y * q' ≤ 0 := Int.mul_nonpos_of_nonpos_of_nonneg (by omega) (by omega)
        omega
  constructor
  · intro hle
    have hcmp : d * q' ≤ e * q := by have : q * e = e * q := Int.mul_comm _ _; have : q' * d = d * q' := Int.mul_comm _ _; omega
    refine ⟨hq, ⟨hq, hqM⟩, ?_⟩
    rintro a b ⟨hb1, hbM⟩ _
    obtain ⟨x, y, ha, hb, hxy⟩ := hcase a b hb1 hbM
    rw [hErr1]
    rcases hxy with ⟨hx, hy, he⟩ | ⟨hx, hy, he⟩
    · rw [he]
      have key : (x * d - y * e) * q - d * b = -y * D := by rw [hb, hD]; grind
      by_cases hy0 : y = 0
      · subst hy0
        right
        have ha' : a = x * p := by omega
        have hb' : b = x * q := by omega
        refine ⟨by omega, ?_⟩
        by_cases hx1 : x = 1
        · subst hx1; right; omega
        · left
          have := Int.mul_le_mul_of_nonneg_right (show (2 : Int) ≤ x by omega) (show (0 : Int) ≤ q by omega)
          omega
      · left
        have : 1 ≤ -y * D := one_le_mul (by omega) (by omega)
        omega
    · rw [he]
      have key : (y * e - x * d) * q - d * b = y * (e * q - d * q') + 2 * (-x * (d * q)) := by rw [hb]; grind
      have k1 : 0 ≤ y * (e * q - d * q') := Int.mul_nonneg (by omega) (by omega)
      have hdq1 : 1 ≤ d * q := one_le_mul (by omega) (by omega)
      have k2 : 0 ≤ -x * (d * q) := Int.mul_nonneg (by omega) (by omega)
      by_cases hx0 : x = 0
      · subst hx0
        have ha' : a = y * p' := by omega
        have hb' : b = y * q' := by omega
        by_cases heq : e * q = d * q'
        · right
          have hz : y * (e * q - d * q') = 0 := by rw [heq]; simp
          have hz2 : -0 * (d * q) = 0 := by simp
          refine ⟨by omega, ?_⟩
          have hqq : q ≤ q' := by
            rcases Int.lt_or_le q' q with hlt | hle2
            · exfalso
              have t1 : d * q' < d * q := Int.mul_lt_mul_of_pos_left hlt hd
              have t2 : d * q ≤ e * q := Int.mul_le_mul_of_nonneg_right hde (by omega)
              omega
            · exact hle2
          by_cases hy1 : y = 1
          · subst hy1
            by_cases hq2 : q = q'
            · right
              rcases htie hq2 with hlt | hpp
              · exfalso
                subst hq2
                have := Int.mul_lt_mul_of_pos_right hlt (show (0 : Int) < q by omega)
                omega
              · exact ⟨by omega, by omega⟩
            · left; omega
          · left
            have := Int.mul_le_mul_of_nonneg_right (show (2 : Int) ≤ y by omega) (show (0 : Int) ≤ q' by omega)
            omega
        · left
          have : 1 ≤ y * (e * q - d * q') := one_le_mul (by omega) (by omega)
          omega
      · left
        have : 1 ≤ -x * (d * q) := one_le_mul (by omega) (by omega)
        omega
  · intro hlt
    have hcmp : e * q < d * q' := by have : q * e = e * q := Int.mul_comm _ _; have : q' * d = d * q' := Int.mul_comm _ _; omega
    refine ⟨hq', ⟨hq', hqM'⟩, ?_⟩
    rintro a b ⟨hb1, hbM⟩ _
    obtain ⟨x, y, ha, hb, hxy⟩ := hcase a b hb1 hbM
    rw [hErr2]
    rcases hxy with ⟨hx, hy, he⟩ | ⟨hx, hy, he⟩
    · left
      rw [he]
      have key : (x * d - y * e) * q' - e * b = x * (d * q' - e * q) + 2 * (-y * (e * q')) := by rw [hb]; grind
      have k1 : 1 ≤ x * (d * q' - e * q) := one_le_mul (by omega) (by omega)
      have k2 : 0 ≤ -y * (e * q') := Int.mul_nonneg (by omega) (Int.mul_nonneg (by omega) (by omega))
      omega
    · rw [he]
      have key : (y * e - x * d) * q' - e * b = -x * D := by rw [hb, hD]; grind
      by_cases hx0 : x = 0
      · subst hx0
        right
        have ha' : a = y * p' := by omega
        have hb' : b = y * q' := by omega
        refine ⟨by omega, ?_⟩
        by_cases hy1 : y = 1
        · subst hy1; right; omega
        · left
          have := Int.mul_le_mul_of_nonneg_right (show (2 : Int) ≤ y by omega) (show (0 : Int) ≤ q' by omega)
          omega
      · left
        have : 1 ≤ -x * D := one_le_mul (by omega) (by omega)
        omega

end Go.Proofs.Ytiobdgnhfecjnaa
