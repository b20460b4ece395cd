/- Plain facts on the continued fraction walk of BestFrac, without any program. -/
import Derived.Test.YtiobdgnhfecjnaaPd
namespace Go.Proofs.Ytiobdgnhfecjnaa
open Go.RowKit
set_option linter.unusedVariables false

/-- Where the walk down the continued fraction of N / D stands. -/
structure Cf (N D M p0 q0 p1 q1 x y s : Int) : Prop where
  sign : s = 1 ∨ s = -1
  det : p1 * q0 - p0 * q1 = s
  num : N = p1 * x + p0 * y
  den : D = q1 * x + q0 * y
  q1lo : 0 ≤ q1
  q1hi : q1 ≤ M
  q0lo : 0 ≤ q0
  q0hi : q0 ≤ M
  ylo : 1 ≤ y
  yhi : y ≤ 1000000
  xlo : -1000000000 ≤ x
  xhi : x ≤ 1000000000
  start : q1 = 0 → q0 = 1 ∧ p1 = 1 ∧ p0 = 0
  later : q1 ≠ 0 → y < x
  prev : q0 = 0 → p0 = 1

theorem Cf.begin {N D M : Int} (h1 : -1000000000 ≤ N) (h2 : N ≤ 1000000000) (h3 : 1 ≤ D) (h4 : D ≤ 1000000) (hM : 1 ≤ M) : Cf N D M 0 1 1 0 N D 1 where
  sign := .inl rfl
  det := by omega
  num := by omega
  den := by omega
  q1lo := by omega
  q1hi := by omega
  q0lo := by omega
  q0hi := by omega
  ylo := h3
  yhi := h4
  xlo := h1
  xhi := h2
  start := fun _ => ⟨rfl, rfl, rfl⟩
  later := fun h => absurd rfl h
  prev := fun h => by omega

theorem sdiv_lo {x y : Int} (hy : 1 ≤ y) : 0 ≤ x - fdiv x y * y ∧ x - fdiv x y * y < y := by
  unfold fdiv
  have h1 := Int.emod_nonneg x (show y ≠ 0 by omega)
  have h2 := Int.emod_lt_of_pos x (show 0 < y by omega)
  have h3 := Int.emod_def x y
  rw [Int.mul_comm] at h3
  omega

/-- One step further. -/
theorem Cf.step {N D M p0 q0 p1 q1 x y s : Int} (h : Cf N D M p0 q0 p1 q1 x y s) (hMD : M < D) (hg : gcdI (absI N) D = 1) (ht : q0 + fdiv x y * q1 ≤ M) :
    Cf N D M p1 q1 (p0 + fdiv x y * p1) (q0 + fdiv x y * q1) y (x - fdiv x y * y) (-s) := by
  obtain ⟨r1, r2⟩ := sdiv_lo (x := x) h.ylo
  have hq : 1 ≤ q0 + fdiv x y * q1 := by
    by_cases h0 : q1 = 0
    · obtain ⟨a, _, _⟩ := h.start h0
      rw [h0, a]; simp
    · have h1 : 1 ≤ fdiv x y := by
        unfold fdiv
        rw [Int.le_ediv_iff_mul_le (by have := h.ylo; omega)]
        have := h.later h0
        omega
      have h2 := one_le_mul h1 (show 1 ≤ q1 by have := h.q1lo; omega)
      have := h.q0lo
      omega
  have hnum : N = (p0 + fdiv x y * p1) * y + p1 * (x - fdiv x y * y) := by have := h.num; grind
  have hden : D = (q0 + fdiv x y * q1) * y + q1 * (x - fdiv x y * y) := by have := h.den; grind
  have hylo := h.ylo
  have hyhi := h.yhi
  have hr : 1 ≤ x - fdiv x y * y := by
    rcases Int.lt_or_le 0 (x - fdiv x y * y) with h0 | h0
    · exact h0
    · exfalso
      have hz : x - fdiv x y * y = 0 := by omega
      rw [hz, Int.mul_zero, Int.add_zero] at hnum hden
      have d1 : y ∣ absI N := by
        unfold absI
        rw [Int.dvd_natAbs]
        exact ⟨p0 + fdiv x y * p1, by rw [hnum]; exact Int.mul_comm _ _⟩
      have d2 : y ∣ D := ⟨q0 + fdiv x y * q1, by rw [Int.mul_comm]; exact hden⟩
      have d3 : y ∣ gcdI (absI N) D := by unfold gcdI; exact Int.dvd_coe_gcd d1 d2
      rw [hg] at d3
      have hy1 : y = 1 := by
        have := Int.le_of_dvd (by omega) d3
        omega
      have hD : (q0 + fdiv x y * q1) * y = q0 + fdiv x y * q1 := by
        generalize q0 + fdiv x y * q1 = z
        rw [hy1, Int.mul_one]
      omega
  refine ⟨?_, ?_, hnum, hden, by omega, ht, h.q1lo, h.q1hi, hr, by omega, by omega, by omega, fun hz => by omega, fun _ => r2, ?_⟩
  · rcases h.sign with e | e <;> omega
  · have := h.det; grind
  · intro hz
    exact (h.start hz).2.1

theorem Cf.errs {N D M p0 q0 p1 q1 x y s : Int} (h : Cf N D M p0 q0 p1 q1 x y s) : N * q1 - p1 * D = -(s * y) ∧ N * q0 - p0 * D = s * x := by
  have := h.det
  have := h.num
  have := h.den
  constructor <;> grind

/-- The end: the two neighbours, and which of them is the best. -/
theorem Cf.stop {N D M p0 q0 p1 q1 x y s : Int} (h : Cf N D M p0 q0 p1 q1 x y s) (hM : 1 ≤ M) (ht : M < q0 + fdiv x y * q1) :
    1 ≤ q1 ∧ absI (p1 * D - N * q1) = y ∧ 1 ≤ q0 + (M - q0) / q1 * q1 ∧ q0 + (M - q0) / q1 * q1 ≤ M ∧ 0 ≤ (M - q0) / q1 ∧ (M - q0) / q1 ≤ 1000000 + M ∧ (M - q0) / q1 * y ≤ x - y ∧
    (2 * y * (q0 + (M - q0) / q1 * q1) ≤ D → BestAt N D (fun _ b => 1 ≤ b ∧ b ≤ M) p1 q1) ∧
    (D < 2 * y * (q0 + (M - q0) / q1 * q1) → BestAt N D (fun _ b => 1 ≤ b ∧ b ≤ M) (p0 + (M - q0) / q1 * p1) (q0 + (M - q0) / q1 * q1)) := by
  have hq1 : 1 ≤ q1 := by
    have a := h.q1lo
    rcases Int.lt_or_le 0 q1 with h0 | h0
    · exact h0
    · exfalso
      have h1 : q1 = 0 := by omega
      obtain ⟨b, _, _⟩ := h.start h1
      rw [h1, b, Int.mul_zero] at ht
      omega
  have hq0 := h.q0lo
  have hq0M := h.q0hi
  have hyx := h.later (by omega)
  have hylo := h.ylo
  obtain ⟨r1, r2⟩ := sdiv_lo (x := x) h.ylo
  have k0 : 0 ≤ (M - q0) / q1 := Int.ediv_nonneg (by omega) (by omega)
  have km := Int.emod_nonneg (M - q0) (show q1 ≠ 0 by omega)
  have kl := Int.emod_lt_of_pos (M - q0) (show 0 < q1 by omega)
  have kd := Int.emod_def (M - q0) q1
  rw [Int.mul_comm q1] at kd
  have kself : (M - q0) / q1 ≤ M - q0 := Int.ediv_le_self _ (by omega)
  generalize (M - q0) / q1 = k at *
  have hkt : k < fdiv x y := by
    rcases Int.lt_or_le k (fdiv x y) with a | a
    · exact a
    · exfalso
      have := Int.mul_le_mul_of_nonneg_right a (show 0 ≤ q1 by omega)
      omega
  have hke : k * y ≤ x - y := by
    have := Int.mul_le_mul_of_nonneg_right (show k ≤ fdiv x y - 1 by omega) (show 0 ≤ y by omega)
    rw [Int.sub_mul, Int.one_mul] at this
    omega
  have hqp : 1 ≤ q0 + k * q1 := by
    rcases Int.lt_or_le 0 q0 with a | a
    · have := Int.mul_nonneg k0 (show 0 ≤ q1 by omega); omega
    · have hk1 : 1 ≤ k := by
        rcases Int.lt_or_le 0 k with b | b
        · exact b
        · exfalso
          have hk : k = 0 := by omega
          rw [hk, Int.zero_mul] at kd
          have := h.q1hi
          omega
      have := one_le_mul hk1 hq1
      omega
  have hdet : p1 * (q0 + k * q1) - (p0 + k * p1) * q1 = s := by have := h.det; grind
  have e1 : N * q1 - p1 * D = -(s * y) := by have := h.det; have := h.num; have := h.den; grind
  have e2 : N * (q0 + k * q1) - (p0 + k * p1) * D = s * (x - k * y) := by have := h.det; have := h.num; have := h.den; grind
  have B := best_semi (M := M) h.sign hdet e1 e2 (by omega) (show y ≤ x - k * y by omega) hq1 h.q1hi hqp (by omega) (by omega) (by
    intro hqq
    have hone : q1 = 1 := by
      have : q1 * (p1 - (p0 + k * p1)) = s := by rw [← hqq] at hdet; rw [Int.mul_sub, ← hdet]; grind
      have hd : q1 ∣ s := ⟨_, this.symm⟩
      have := Int.le_of_dvd (a := q1) (b := s * s) (by rcases h.sign with e | e <;> (rw [e]; decide)) (Int.dvd_trans hd ⟨s, rfl⟩)
      have : s * s = 1 := by rcases h.sign with e | e <;> (rw [e]; rfl)
      omega
    rcases Int.lt_or_le 0 q0 with a | a
    · left
      have hk : k = 0 := by rw [hone] at hqq; omega
      rw [hk, Int.zero_mul]
      omega
    · right
      have hp := h.prev (by omega)
      have hk : k = 1 := by rw [hone] at hqq; omega
      rw [hk, Int.one_mul, hp]
      omega)
  have hf : absI (p1 * D - N * q1) = y := by
    have : p1 * D - N * q1 = s * y := by omega
    rw [this]
    exact abs_of_sign h.sign (by omega)
  refine ⟨hq1, hf, hqp, by omega, k0, by omega, hke, ?_, ?_⟩
  · intro hle
    exact B.1 (by rw [Int.mul_assoc] at hle; exact hle)
  · intro hlt
    exact B.2 (by rw [Int.mul_assoc] at hlt; exact hlt)

end Go.Proofs.Ytiobdgnhfecjnaa
