/- Plain facts on lists given by a function of the index, without any program. -/
import Derived.Test.YtplioelpmfeabaaDoorPa
namespace Go.Proofs.YtplioelpmfeabaaDoor
open Go.RowKit
set_option linter.unusedVariables false
set_option linter.unusedSimpArgs false

/-- The numbers F 0, .. F (n - 1). -/
def tab (n : Nat) (F : Nat → Int) : List Int := (List.range n).map F
theorem tab_length (n : Nat) (F : Nat → Int) : (tab n F).length = n := by simp [tab]
theorem tab_zero (F : Nat → Int) : tab 0 F = [] := rfl
theorem tab_succ (n : Nat) (F : Nat → Int) : tab (n + 1) F = tab n F ++ [F n] := by simp [tab, List.range_succ]
theorem tab_getD {n k : Nat} {F : Nat → Int} (h : k < n) : (tab n F).getD k 0 = F k := by simp [tab, List.getD_eq_getElem?_getD, h]
theorem tab_behind {n k : Nat} {F : Nat → Int} (h : n ≤ k) : (tab n F).getD k 0 = 0 := by
  simp [List.getD_eq_getElem?_getD, List.getElem?_eq_none, tab_length, h]
theorem tab_ext {n : Nat} {F G : Nat → Int} (h : ∀ k, k < n → F k = G k) : tab n F = tab n G := by
  unfold tab
  apply List.map_congr_left
  intro k hk
  exact h k (List.mem_range.1 hk)
theorem eq_tab {xs : List Int} {n : Nat} {F : Nat → Int} (hl : xs.length = n) (h : ∀ k, k < n → xs.getD k 0 = F k) : xs = tab n F := by
  subst hl
  apply List.ext_getElem (by rw [tab_length])
  intro k h1 h2
  have := h k h1
  simp [List.getD_eq_getElem?_getD, h1] at this
  rw [this]
  simp [tab]
theorem tab_of (xs : List Int) : xs = tab xs.length (fun k => xs.getD k 0) := eq_tab rfl (fun _ _ => rfl)
theorem replicate_tab (n : Nat) : List.replicate n (0 : Int) = tab n (fun _ => 0) :=
  eq_tab (by simp) (fun k hk => by simp [List.getD_eq_getElem?_getD, hk])
/-- The function F changed at j. -/
def upd (F : Nat → Int) (j : Nat) (v : Int) : Nat → Int := fun k => if k = j then v else F k
theorem upd_at (F : Nat → Int) (j : Nat) (v : Int) : upd F j v j = v := by simp [upd]
theorem upd_far (F : Nat → Int) {j k : Nat} (v : Int) (h : k ≠ j) : upd F j v k = F k := by simp [upd, h]
theorem tab_set (n : Nat) (F : Nat → Int) (j : Nat) (v : Int) : (tab n F).set j v = tab n (upd F j v) := by
  apply eq_tab (by simp [tab_length])
  intro k hk
  by_cases h : k = j
  · subst h
    simp [List.getD_eq_getElem?_getD, tab_length, hk, upd]
  · have h' : ¬ j = k := fun e => h e.symm
    rw [upd_far F v h]
    simp [List.getD_eq_getElem?_getD, h', tab, hk]
/-- The first j numbers are F's, the others 0. -/
def part (F : Nat → Int) (j : Nat) : Nat → Int := fun k => if k < j then F k else 0
theorem part_zero (F : Nat → Int) (n : Nat) : List.replicate n (0 : Int) = tab n (part F 0) := by
  rw [replicate_tab]; exact tab_ext fun k _ => by simp [part]
theorem part_set {n j : Nat} {F : Nat → Int} {v : Int} (hv : v = F j) : (tab n (part F j)).set j v = tab n (part F (j + 1)) := by
  rw [tab_set]
  apply tab_ext
  intro k _
  unfold upd part
  by_cases h : k = j
  · subst h; simp [hv]
  · rw [if_neg h]
    by_cases h' : k < j
    · rw [if_pos h', if_pos (by omega)]
    · rw [if_neg h', if_neg (by omega)]
theorem part_done {n : Nat} {F : Nat → Int} : tab n (part F n) = tab n F := tab_ext fun k hk => by simp [part, hk]
theorem part_end {n j : Nat} {F : Nat → Int} (h : n ≤ j) : tab n (part F j) = tab n F := tab_ext fun k hk => by unfold part; rw [if_pos (by omega)]
theorem tab_snoc {n : Nat} {F : Nat → Int} {v : Int} (hv : v = F n) : tab n F ++ [v] = tab (n + 1) F := by rw [tab_succ, hv]

/-- All numbers fit into an int64. -/
theorem tab_all {n : Nat} {F : Nat → Int} {p : Int → Prop} (h : ∀ k, k < n → p (F k)) : ∀ x ∈ tab n F, p x := by
  intro x hx
  simp [tab] at hx
  obtain ⟨k, hk, rfl⟩ := hx
  exact h k hk

end Go.Proofs.YtplioelpmfeabaaDoor
