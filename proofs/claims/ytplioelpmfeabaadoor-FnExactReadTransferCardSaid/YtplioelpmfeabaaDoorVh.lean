/- Walks: trimmed lists. -/
import Derived.Test.YtplioelpmfeabaaDoorVg
namespace Go.Proofs.YtplioelpmfeabaaDoor
open Go.RowKit
set_option linter.unusedVariables false
set_option linter.unusedSimpArgs false

/-- A fresh slice with the list xs, told of a value. -/
theorem Fresh.congr {xs ys : List Int} {w : World} {e : Ending} {w' : World} (h : xs = ys) (hf : Fresh xs w e w') : Fresh ys w e w' := h ▸ hf
theorem trimL_one {xs : List Int} (h1 : 1 ≤ xs.length) (h : lenF (fun k => xs.getD k 0) 1 = lenF (fun k => xs.getD k 0) xs.length) : xs.take 1 = trimL xs := by
  obtain ⟨x, l, rfl⟩ : ∃ x l, xs = x :: l := by
    rcases xs with _ | ⟨x, l⟩
    · simp at h1
    · exact ⟨x, l, rfl⟩
  by_cases hx : x = 0
  · have h0 : lenF (fun k => (x :: l).getD k 0) 1 = 0 := by
      show (if (x :: l).getD 0 0 = 0 then 0 else 1) = 0
      simp [hx]
    rw [trimL_none (by rw [← h, h0]), hx]
    rfl
  · have h0 : lenF (fun k => (x :: l).getD k 0) 1 = 1 := by
      show (if (x :: l).getD 0 0 = 0 then 0 else 1) = 1
      simp [hx]
    rw [trimL_some (by rw [← h, h0]; omega), ← h, h0]
theorem trimL_stop {xs : List Int} {k : Nat} (hk : k ≠ 0) (h : lenF (fun k => xs.getD k 0) k = lenF (fun k => xs.getD k 0) xs.length) (hz : xs.getD (k - 1) 0 ≠ 0) : xs.take k = trimL xs := by
  obtain ⟨j, rfl⟩ : ∃ j, k = j + 1 := ⟨k - 1, by omega⟩
  have e : lenF (fun k => xs.getD k 0) (j + 1) = j + 1 := lenF_stop (by simpa using hz)
  rw [trimL_some (by rw [← h, e]; omega), ← h, e]


end Go.Proofs.YtplioelpmfeabaaDoor
