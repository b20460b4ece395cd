/- Plain facts on the search of BestFrac, without any program. -/
import Derived.Test.YtiobdgnhfecjnaaPg
namespace Go.Proofs.Ytiobdgnhfecjnaa
open Go.RowKit
set_option linter.unusedVariables false

def lowF (n d b : Int) : Int := fdiv (n * b) d
/-- The candidates tried before (num, den). -/
def Cand (n d den num : Int) (a b : Int) : Prop := 1 ≤ b ∧ (b < den ∨ (b = den ∧ a < num)) ∧ (a = lowF n d b ∨ a = lowF n d b + 1)
/-- All candidates. -/
def CandM (n d m : Int) (a b : Int) : Prop := 1 ≤ b ∧ b ≤ m ∧ b ≤ d ∧ (a = lowF n d b ∨ a = lowF n d b + 1)
/-- Where the search stands. -/
def Srch (n d den num P Q F : Int) (b : Bool) : Prop :=
  (b = false ∧ den = 1 ∧ num = lowF n d 1) ∨ (b = true ∧ BestAt n d (Cand n d den num) P Q ∧ F = errI n d P Q)

theorem Srch.take {n d den num P Q F : Int} {b : Bool} (h : Srch n d den num P Q F b) (hden : 1 ≤ den) (hnum : num = lowF n d den ∨ num = lowF n d den + 1)
    (hb : b = false ∨ errI n d num den * Q < F * den) : Srch n d den (num + 1) num den (errI n d num den) true := by
  right
  refine ⟨rfl, ⟨hden, ⟨hden, .inr ⟨rfl, by omega⟩, hnum⟩, ?_⟩, rfl⟩
  rintro a c ⟨c1, c2, c3⟩ _
  rcases h with ⟨rfl, rfl, rfl⟩ | ⟨rfl, hbest, rfl⟩
  · have hc : c = 1 := by omega
    subst hc
    have ha : a = lowF n d 1 := by omega
    subst ha
    right
    exact ⟨rfl, .inr ⟨rfl, by omega⟩⟩
  · have hlt : errI n d num den * Q < errI n d P Q * den := by
      rcases hb with h0 | h0
      · cases h0
      · exact h0
    by_cases hsame : c = den ∧ a = num
    · obtain ⟨rfl, rfl⟩ := hsame
      right
      exact ⟨rfl, .inr ⟨rfl, by omega⟩⟩
    · left
      have hold : Cand n d den num a c := ⟨c1, by omega, c3⟩
      have hq := hbest.1
      have hle : errI n d P Q * c ≤ errI n d a c * Q := by
        rcases hbest.2.2 a c hold c1 with h1 | ⟨h1, _⟩ <;> omega
      have s1 : errI n d num den * Q * c < errI n d P Q * den * c := Int.mul_lt_mul_of_pos_right hlt (by omega)
      have s2 : errI n d P Q * c * den ≤ errI n d a c * Q * den := Int.mul_le_mul_of_nonneg_right hle (by omega)
      have s3 : errI n d num den * c * Q < errI n d a c * den * Q := by
        have e1 : errI n d num den * Q * c = errI n d num den * c * Q := by grind
        have e2 : errI n d P Q * den * c = errI n d P Q * c * den := by grind
        have e3 : errI n d a c * Q * den = errI n d a c * den * Q := by grind
        omega
      exact Int.lt_of_mul_lt_mul_right s3 (by omega)

theorem Srch.keep {n d den num P Q F : Int} {b : Bool} (h : Srch n d den num P Q F b) (hden : 1 ≤ den) (hnum : num = lowF n d den ∨ num = lowF n d den + 1)
    (hb : b = true) (hge : F * den ≤ errI n d num den * Q) : Srch n d den (num + 1) P Q F true := by
  subst hb
  rcases h with ⟨h0, _⟩ | ⟨_, hbest, rfl⟩
  · cases h0
  · right
    obtain ⟨q1, ⟨c1, c2, c3⟩, hall⟩ := hbest
    refine ⟨rfl, ⟨q1, ⟨c1, by omega, c3⟩, ?_⟩, rfl⟩
    rintro a c ⟨e1, e2, e3⟩ hc1
    by_cases hsame : c = den ∧ a = num
    · obtain ⟨rfl, rfl⟩ := hsame
      rcases Int.lt_or_eq_of_le hge with h1 | h1
      · exact .inl h1
      · right; exact ⟨h1, by omega⟩
    · exact hall a c ⟨e1, by omega, e3⟩ hc1

theorem Srch.next {n d den P Q F : Int} (h : Srch n d den (lowF n d den + 2) P Q F true) (hden : 1 ≤ den) : Srch n d (den + 1) (lowF n d (den + 1)) P Q F true := by
  rcases h with ⟨h0, _⟩ | ⟨_, ⟨q1, ⟨c1, c2, c3⟩, hall⟩, hF⟩
  · cases h0
  · right
    refine ⟨rfl, ⟨q1, ⟨c1, ?_, c3⟩, ?_⟩, hF⟩
    · left; omega
    · rintro a c ⟨e1, e2, e3⟩ hc1
      refine hall a c ⟨e1, ?_, e3⟩ hc1
      rcases e2 with e2 | ⟨e2, e4⟩
      · rcases Int.lt_or_le c den with h1 | h1
        · left; exact h1
        · right
          have : c = den := by omega
          subst this
          exact ⟨rfl, by omega⟩
      · subst e2; omega

theorem Srch.done {n d m den P Q F : Int} {b : Bool} (h : Srch n d den (lowF n d den) P Q F b) (h1 : 1 ≤ m) (h2 : 1 ≤ d) (hm : den ≤ m + 1) (hd : den ≤ d + 1) (he : m < den ∨ d < den) :
    BestAt n d (CandM n d m) P Q := by
  rcases h with ⟨_, rfl, _⟩ | ⟨_, ⟨q1, ⟨c1, c2, c3⟩, hall⟩, _⟩
  · omega
  · refine ⟨q1, ⟨c1, ?_, ?_, c3⟩, ?_⟩
    · rcases c2 with c2 | ⟨c2, c4⟩
      · omega
      · subst c2; omega
    · rcases c2 with c2 | ⟨c2, c4⟩
      · omega
      · subst c2; omega
    · rintro a c ⟨e1, e2, e3, e4⟩ hc1
      exact hall a c ⟨e1, by omega, e4⟩ hc1

theorem low_spec {n d b : Int} (hd : 1 ≤ d) : 0 ≤ n * b - lowF n d b * d ∧ n * b - lowF n d b * d < d := sdiv_lo hd
/-- The best of all is among the candidates. -/
theorem best_cand {n d m P Q : Int} (hd : 1 ≤ d) (h : BestAt n d (fun _ b => 1 ≤ b ∧ b ≤ m) P Q) : CandM n d m P Q := by
  obtain ⟨q1, ⟨_, q2⟩, hall⟩ := h
  have hQd : Q ≤ d := by
    rcases Int.lt_or_le m d with h0 | h0
    · omega
    · have hz : errI n d n d = 0 := by unfold errI; rw [Int.sub_self]; rfl
      have h1 := hall n d ⟨hd, h0⟩ hd
      rw [hz, Int.zero_mul] at h1
      have h2 := Int.mul_nonneg (errI_lo n d P Q) (show 0 ≤ d by omega)
      rcases h1 with h1 | ⟨_, h1⟩ <;> omega
  refine ⟨q1, q2, hQd, ?_⟩
  obtain ⟨l1, l2⟩ := low_spec (n := n) (b := Q) hd
  have h1 := hall (lowF n d Q) Q ⟨q1, q2⟩ q1
  have hle : errI n d P Q * Q ≤ errI n d (lowF n d Q) Q * Q := by rcases h1 with h1 | ⟨h1, _⟩ <;> omega
  have hle2 : errI n d P Q ≤ errI n d (lowF n d Q) Q := Int.le_of_mul_le_mul_right hle (by omega)
  have hlow : errI n d (lowF n d Q) Q = n * Q - lowF n d Q * d := absI_of_nonneg l1
  rw [hlow] at hle2
  unfold errI absI at hle2
  have hb1 : -d < n * Q - P * d := by omega
  have hb2 : n * Q - P * d < d := by omega
  have k1 : -d < (lowF n d Q - P) * d + d := by rw [Int.sub_mul]; omega
  have k2 : (lowF n d Q - P) * d < d := by rw [Int.sub_mul]; omega
  have j1 : -2 < lowF n d Q - P := by
    rcases Int.lt_or_le (-2) (lowF n d Q - P) with a | a
    · exact a
    · exfalso
      have := Int.mul_le_mul_of_nonneg_right a (show 0 ≤ d by omega)
      omega
  have j2 : lowF n d Q - P < 1 := by
    rcases Int.lt_or_le (lowF n d Q - P) 1 with a | a
    · exact a
    · exfalso
      have := Int.mul_le_mul_of_nonneg_right a (show 0 ≤ d by omega)
      omega
  omega

end Go.Proofs.Ytiobdgnhfecjnaa
