/- Walks: the greatest of two; PeakOf. -/
import Derived.Test.YtplioelpmfeabaaDoorVb
import Derived.Test.YtplioelpmfeabaaDoorVd
import Derived.Deep.RegionWith
namespace Go.Proofs.YtplioelpmfeabaaDoor
open Go.RowKit
set_option linter.unusedVariables false
set_option linter.unusedSimpArgs false

def imax (a b : Int) : Int := if b < a then a else b
theorem imax_yes {a b : Int} (h : b < a) : imax a b = a := if_pos h
theorem imax_no {a b : Int} (h : ¬ b < a) : imax a b = b := if_neg h
theorem imax3 (p x : Int) : (if (if p < x then x else p) < -x then -x else if p < x then x else p) = imax p (imax x (-x)) := by
  unfold imax
  by_cases h1 : p < x
  · simp only [if_pos h1]
    by_cases h2 : x < -x
    · rw [if_pos h2]; (repeat' split) <;> omega
    · rw [if_neg h2]; (repeat' split) <;> omega
  · simp only [if_neg h1]
    by_cases h2 : p < -x
    · rw [if_pos h2]; (repeat' split) <;> omega
    · rw [if_neg h2]; (repeat' split) <;> omega
def pkN (f : Nat → Int) : Nat → Int
  | 0 => 0
  | k + 1 => imax (pkN f k) (imax (f k) (-(f k)))
theorem pkN_in {f : Nat → Int} (hf : ∀ k, -2147483648 ≤ f k ∧ f k ≤ 2147483647) : ∀ k, 0 ≤ pkN f k ∧ pkN f k ≤ 2147483648
  | 0 => ⟨by simp [pkN], by simp [pkN]⟩
  | k + 1 => by
    have := pkN_in hf k
    have := hf k
    show 0 ≤ imax _ (imax _ _) ∧ imax _ (imax _ _) ≤ _
    unfold imax
    split <;> split <;> omega
def peakOf (xs : List Int) : Int × Bool := if sigB xs then (pkN (fun k => xs.getD k 0) xs.length, true) else (0, false)
theorem peakOf_no {xs : List Int} (h : sigB xs = false) : ((0 : Int), false) = peakOf xs := by simp [peakOf, h]
theorem peakOf_yes {xs : List Int} {v : Int} (h : sigB xs = true) (hv : v = pkN (fun k => xs.getD k 0) xs.length) : (v, true) = peakOf xs := by simp [peakOf, h, hv]


end Go.Proofs.YtplioelpmfeabaaDoor
