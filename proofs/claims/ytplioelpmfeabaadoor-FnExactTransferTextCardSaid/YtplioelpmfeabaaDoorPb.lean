/- Plain facts on fractions, without any program. -/
import Derived.Test.YtplioelpmfeabaaDoorPa
import Derived.WalkKit
namespace Go.Proofs.YtplioelpmfeabaaDoor
open Go.RowKit
set_option linter.unusedVariables false
set_option linter.unusedSimpArgs false

/-- The greatest common divisor, as a number. -/
def gcdI (a b : Int) : Int := (Int.gcd a b : Int)
/-- The absolute value. -/
def absI (n : Int) : Int := (n.natAbs : Int)
theorem absI_lo (n : Int) : 0 ≤ absI n := by unfold absI; omega
theorem absI_hi {n : Int} (h : -9223372036854775808 ≤ n) (h' : n ≤ 9223372036854775807) : absI n ≤ 9223372036854775808 := by unfold absI; omega
theorem absI_pos {n : Int} (h : n ≠ 0) : 1 ≤ absI n := by unfold absI; omega
theorem absI_of_neg {n : Int} (h : n < 0) : absI n = -n := by unfold absI; omega
theorem absI_of_nonneg {n : Int} (h : 0 ≤ n) : absI n = n := by unfold absI; omega
theorem absI_zero : absI 0 = 0 := rfl

theorem gcdI_lo (a b : Int) : 0 ≤ gcdI a b := by unfold gcdI; omega
theorem gcdI_zero (a : Int) (h : 0 ≤ a) : gcdI a 0 = a := by unfold gcdI; simp; omega
theorem gcdI_step (a b : Int) (ha : 0 ≤ a) (hb : 0 < b) : gcdI b (a % b) = gcdI a b := by
  unfold gcdI
  congr 1
  obtain ⟨x, rfl⟩ := Int.eq_ofNat_of_zero_le ha
  obtain ⟨y, rfl⟩ := Int.eq_ofNat_of_zero_le (Int.le_of_lt hb)
  rw [← Int.natCast_emod]
  simp only [Int.gcd, Int.natAbs_natCast]
  rw [Nat.gcd_comm y, ← Nat.gcd_rec, Nat.gcd_comm]
theorem gcdI_pos (a b : Int) (hb : 1 ≤ b) : 1 ≤ gcdI a b := by
  unfold gcdI
  have : 0 < Int.gcd a b := Int.gcd_pos_of_ne_zero_right a (by omega)
  omega
theorem gcdI_le (a b : Int) (hb : 1 ≤ b) : gcdI a b ≤ b := by
  unfold gcdI
  have : Int.gcd a b ∣ b.natAbs := Int.gcd_dvd_natAbs_right a b
  have := Nat.le_of_dvd (by omega) this
  omega

/-- The rule of valid fractions. -/
def okF (n d : Int) : Bool := inB 1 1000000 d && inB (-1000000000) 1000000000 n && (gcdI (absI n) d == 1)
theorem okF_d {n d : Int} (h1 : inB 1 1000000 d = false) : okF n d = false := by simp [okF, h1]
theorem okF_n {n d : Int} (h2 : inB (-1000000000) 1000000000 n = false) : okF n d = false := by simp [okF, h2]
theorem okF_g {n d : Int} (h1 : inB 1 1000000 d = true) (h2 : inB (-1000000000) 1000000000 n = true) : (gcdI (absI n) d == 1) = okF n d := by simp [okF, h1, h2]
theorem okF_inv {n d : Int} (h : okF n d = true) : 1 ≤ d ∧ d ≤ 1000000 ∧ -1000000000 ≤ n ∧ n ≤ 1000000000 ∧ gcdI (absI n) d = 1 := by
  simp [okF, inB] at h
  omega
def okF2 (a b c d : Int) : Bool := okF a b && okF c d
theorem okF2_inv {a b c d : Int} (h : okF2 a b c d = true) : okF a b = true ∧ okF c d = true := by simpa [okF2] using h

/-- The fraction num / den in lowest terms, with its code. -/
def mkA (n d : Int) : Int := absI n / gcdI (absI n) (absI d)
def mkB (n d : Int) : Int := absI d / gcdI (absI n) (absI d)
def mkBad (n d : Int) : Bool := decide (1000000000 < mkA n d) || decide (1000000 < mkB n d)
def mkN (n d : Int) : Int := if d = 0 then 0 else if mkBad n d then 0 else if decide (n < 0) != decide (d < 0) then -(mkA n d) else mkA n d
def mkD (n d : Int) : Int := if d = 0 then 0 else if mkBad n d then 0 else mkB n d
def mkC (n d : Int) : Int := if d = 0 then 1 else if mkBad n d then 2 else 0
theorem mkA_lo (n d : Int) : 0 ≤ mkA n d := by
  unfold mkA
  exact Int.ediv_nonneg (absI_lo _) (gcdI_lo _ _)
theorem mkB_lo (n d : Int) : 0 ≤ mkB n d := by
  unfold mkB
  exact Int.ediv_nonneg (absI_lo _) (gcdI_lo _ _)

/-- A quotient, rounded down. -/
def fdiv (a b : Int) : Int := a / b
theorem fdiv_neg {a b : Int} (hb : 1 ≤ b) (h : a.tmod b < 0) : a.tdiv b - 1 = fdiv a b := by
  unfold fdiv
  rw [Int.tdiv_eq_ediv]
  have hm : a < 0 := by
    rcases Int.lt_or_le a 0 with h0 | h0
    · exact h0
    · have := Int.tmod_nonneg b h0; omega
  have hnd : ¬ b ∣ a := by
    intro hd
    have := Int.tmod_eq_zero_of_dvd hd
    omega
  rw [if_neg (fun hx => by rcases hx with h1 | h1; · omega
                           · exact hnd h1)]
  rw [Int.sign_eq_one_of_pos (by omega)]
  omega
theorem fdiv_nonneg {a b : Int} (h : 0 ≤ a.tmod b) : a.tdiv b = fdiv a b := by
  unfold fdiv
  rw [Int.tdiv_eq_ediv]
  by_cases hm : 0 ≤ a
  · rw [if_pos (Or.inl hm)]; omega
  · have hd : b ∣ a := by
      have h1 : a.tmod b ≤ 0 := by
        have := Int.tmod_nonneg b (a := -a) (by omega)
        rw [Int.neg_tmod] at this
        omega
      exact Int.dvd_of_tmod_eq_zero (by omega)
    rw [if_pos (Or.inr hd)]; omega

theorem fdiv_in {a b : Int} (h : -9223372036854775808 ≤ a) (h' : a ≤ 9223372036854775807) (hb : 1 ≤ b) : -9223372036854775808 ≤ fdiv a b ∧ fdiv a b ≤ 9223372036854775807 := by
  unfold fdiv
  by_cases h0 : 0 ≤ a
  · have h1 := Int.ediv_nonneg h0 (show 0 ≤ b by omega)
    have h2 := Int.ediv_le_self b h0
    omega
  · have h1 : a ≤ a / b := by
      rw [Int.le_ediv_iff_mul_le (by omega)]
      have := Int.mul_le_mul_of_nonpos_left (a := a) (b := b) (c := 1) (by omega) hb
      omega
    have h2 : a / b ≤ 0 := by
      have := Int.ediv_neg_of_neg_of_pos (show a < 0 by omega) (show 0 < b by omega)
      omega
    omega

/-- The order of two fractions. -/
def cmpF (x y : Int) : Int := if x < y then -1 else if y < x then 1 else 0

theorem ret_frac {a b c a' b' c' : Int} (h1 : a = a') (h2 : b = b') (h3 : c = c') :
    Ending.returned (.tuple #[.agg #[.int .i64 a, .int .i64 b], .int .i64 c]) = .returned (.tuple #[.agg #[.int .i64 a', .int .i64 b'], .int .i64 c']) := by rw [h1, h2, h3]
theorem mk_zero (n : Int) : (0 : Int) = mkN n 0 ∧ (0 : Int) = mkD n 0 ∧ (1 : Int) = mkC n 0 := by simp [mkN, mkD, mkC]
theorem mk_bad {n d : Int} (h : d ≠ 0) (hb : mkBad n d = true) : (0 : Int) = mkN n d ∧ (0 : Int) = mkD n d ∧ (2 : Int) = mkC n d := by simp [mkN, mkD, mkC, h, hb]
theorem mk_same {n d : Int} (h : d ≠ 0) (hb : mkBad n d = false) (hs : decide (n < 0) = decide (d < 0)) : absI n / gcdI (absI n) (absI d) = mkN n d ∧ absI d / gcdI (absI n) (absI d) = mkD n d ∧ (0 : Int) = mkC n d := by
  simp [mkN, mkD, mkC, h, hb, hs, mkA, mkB]
theorem mk_differ {n d : Int} (h : d ≠ 0) (hb : mkBad n d = false) (hs : decide (n < 0) ≠ decide (d < 0)) : -(absI n / gcdI (absI n) (absI d)) = mkN n d ∧ absI d / gcdI (absI n) (absI d) = mkD n d ∧ (0 : Int) = mkC n d := by
  have : (decide (n < 0) != decide (d < 0)) = true := by simpa using hs
  simp [mkN, mkD, mkC, h, hb, mkA, mkB]
  intro h2
  simp [h2] at this

end Go.Proofs.YtplioelpmfeabaaDoor
