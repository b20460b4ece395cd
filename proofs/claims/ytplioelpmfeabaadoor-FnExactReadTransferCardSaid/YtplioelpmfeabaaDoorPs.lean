/- Plain functions on signals and polynomials, without any program. -/
import Derived.Test.YtplioelpmfeabaaDoorPt
namespace Go.Proofs.YtplioelpmfeabaaDoor
open Go.RowKit
set_option linter.unusedVariables false
set_option linter.unusedSimpArgs false

theorem wrap32_addl (a b : Int) : wrap32 (wrap32 a + b) = wrap32 (a + b) := by unfold wrap32; omega
theorem wrap32_subl (a b : Int) : wrap32 (wrap32 a - b) = wrap32 (a - b) := by unfold wrap32; omega
theorem wrap32_addr (a b : Int) : wrap32 (a + wrap32 b) = wrap32 (a + b) := by unfold wrap32; omega
theorem wrap32_subr (a b : Int) : wrap32 (a - wrap32 b) = wrap32 (a - b) := by unfold wrap32; omega
theorem wrap32_id {a : Int} (h : -2147483648 ≤ a) (h' : a ≤ 2147483647) : wrap32 a = a := by unfold wrap32; omega
theorem mul_comm_wrap (a b : Int) : wrap32 (a * b) = wrap32 (b * a) := by rw [Int.mul_comm]

/-- The value of a polynomial of n coefficients: after j steps. -/
def evN (f : Nat → Int) (n : Nat) (x : Int) : Nat → Int
  | 0 => 0
  | j + 1 => wrap32 (evN f n x j * x + f (n - 1 - j))
theorem evN_in (f : Nat → Int) (n : Nat) (x : Int) : ∀ j, -2147483648 ≤ evN f n x j ∧ evN f n x j ≤ 2147483647
  | 0 => ⟨by simp [evN], by simp [evN]⟩
  | _ + 1 => ⟨wrap32_lo _, wrap32_hi _⟩

/-- a plus g times b. -/
def addT (xs : List Int) (g : Int) (ys : List Int) : List Int := tab (max xs.length ys.length) (fun k => wrap32 (xs.getD k 0 + g * ys.getD k 0))
theorem addT_length (xs : List Int) (g : Int) (ys : List Int) : (addT xs g ys).length = max xs.length ys.length := tab_length _ _
theorem addT_zeros (g : Int) (ys : List Int) : addT (List.replicate ys.length 0) g ys = addT [] g ys := by
  unfold addT
  rw [List.length_replicate, Nat.max_self, List.length_nil, Nat.zero_max]
  apply tab_ext
  intro k hk
  simp [List.getD_eq_getElem?_getD, hk]
theorem addT_i64 (xs : List Int) (g : Int) (ys : List Int) : ∀ x ∈ addT xs g ys, -2147483648 ≤ x ∧ x ≤ 2147483647 := tab_all fun _ _ => ⟨wrap32_lo _, wrap32_hi _⟩

/-- Some samples, zeros behind the end. -/
def sliT (xs : List Int) (o n : Nat) : List Int := tab n (fun k => xs.getD (o + k) 0)

/-- How many of the first n numbers are left when the zeros at the end go. -/
def lenF (f : Nat → Int) : Nat → Nat
  | 0 => 0
  | n + 1 => if f n = 0 then lenF f n else n + 1
theorem lenF_le (f : Nat → Int) : ∀ n, lenF f n ≤ n
  | 0 => Nat.le_refl _
  | n + 1 => by
    have := lenF_le f n
    unfold lenF
    split <;> omega
theorem lenF_zero {f : Nat → Int} {n : Nat} (h : f n = 0) : lenF f (n + 1) = lenF f n := if_pos h
theorem lenF_stop {f : Nat → Int} {n : Nat} (h : f n ≠ 0) : lenF f (n + 1) = n + 1 := if_neg h
theorem lenF_last {f : Nat → Int} : ∀ {n : Nat}, lenF f n ≠ 0 → f (lenF f n - 1) ≠ 0
  | 0, h => absurd rfl h
  | n + 1, h => by
    by_cases hz : f n = 0
    · rw [lenF_zero hz] at h ⊢
      exact lenF_last h
    · rw [lenF_stop hz]
      simpa using hz
theorem lenF_behind {f : Nat → Int} : ∀ {n k : Nat}, lenF f n ≤ k → k < n → f k = 0
  | 0, k, _, h => absurd h (by omega)
  | n + 1, k, h, hk => by
    by_cases hz : f n = 0
    · rw [lenF_zero hz] at h
      rcases Nat.lt_or_ge k n with h1 | h1
      · exact lenF_behind h h1
      · obtain rfl : k = n := by omega
        exact hz
    · rw [lenF_stop hz] at h
      omega
theorem lenF_eq {f : Nat → Int} {m : Nat} (hm : m = 0 ∨ f (m - 1) ≠ 0) : ∀ {n : Nat}, m ≤ n → (∀ k, m ≤ k → k < n → f k = 0) → lenF f n = m
  | 0, h, _ => by have : m = 0 := by omega
                  rw [this]; rfl
  | n + 1, h, hz => by
    rcases Nat.eq_or_lt_of_le h with h1 | h1
    · subst h1
      rcases hm with hm | hm
      · omega
      · exact lenF_stop (by simpa using hm)
    · rw [lenF_zero (hz n (by omega) (by omega))]
      exact lenF_eq hm (by omega) (fun k h2 h3 => hz k h2 (by omega))
theorem lenF_congr {f g : Nat → Int} : ∀ {n : Nat}, (∀ k, k < n → f k = g k) → lenF f n = lenF g n
  | 0, _ => rfl
  | n + 1, h => by
    unfold lenF
    rw [h n (by omega), lenF_congr (fun k hk => h k (by omega))]
/-- The coefficients without zeros at the end. -/
def trimL (xs : List Int) : List Int := if lenF (fun k => xs.getD k 0) xs.length = 0 then [0] else xs.take (lenF (fun k => xs.getD k 0) xs.length)
theorem trimL_none {xs : List Int} (h : lenF (fun k => xs.getD k 0) xs.length = 0) : trimL xs = [0] := if_pos h
theorem trimL_some {xs : List Int} (h : lenF (fun k => xs.getD k 0) xs.length ≠ 0) : trimL xs = xs.take (lenF (fun k => xs.getD k 0) xs.length) := if_neg h
theorem trimL_length (xs : List Int) : (trimL xs).length = max 1 (lenF (fun k => xs.getD k 0) xs.length) := by
  have := lenF_le (fun k => xs.getD k 0) xs.length
  by_cases h : lenF (fun k => xs.getD k 0) xs.length = 0
  · rw [trimL_none h, h]; rfl
  · rw [trimL_some h, List.length_take]; omega
theorem trimL_le (xs : List Int) : (trimL xs).length ≤ max 1 xs.length := by
  rw [trimL_length]
  have := lenF_le (fun k => xs.getD k 0) xs.length
  omega
theorem getD_take {xs : List Int} {n k : Nat} (h : k < n) : (xs.take n).getD k 0 = xs.getD k 0 := by simp [List.getD_eq_getElem?_getD, List.getElem?_take, h]
theorem getD_behind {xs : List Int} {k : Nat} (h : xs.length ≤ k) : xs.getD k 0 = 0 := by simp [List.getD_eq_getElem?_getD, List.getElem?_eq_none h]
theorem trimL_getD (xs : List Int) (k : Nat) : (trimL xs).getD k 0 = xs.getD k 0 := by
  have hle := lenF_le (fun k => xs.getD k 0) xs.length
  by_cases h : lenF (fun k => xs.getD k 0) xs.length = 0
  · rw [trimL_none h]
    have hz : xs.getD k 0 = 0 := by
      rcases Nat.lt_or_ge k xs.length with hk | hk
      · exact lenF_behind (f := fun k => xs.getD k 0) (by rw [h]; omega) hk
      · exact getD_behind hk
    rw [hz]
    rcases k with _ | k <;> rfl
  · rw [trimL_some h]
    rcases Nat.lt_or_ge k (lenF (fun k => xs.getD k 0) xs.length) with hk | hk
    · exact getD_take hk
    · rw [getD_behind (by rw [List.length_take]; omega)]
      rcases Nat.lt_or_ge k xs.length with hk' | hk'
      · exact (lenF_behind (f := fun k => xs.getD k 0) hk hk').symm
      · exact (getD_behind hk').symm
/-- Lists that agree everywhere, zeros behind their ends, are trimmed alike. -/
theorem trimL_congr {xs ys : List Int} (h : ∀ k, xs.getD k 0 = ys.getD k 0) : trimL xs = trimL ys := by
  have key : ∀ {xs ys : List Int}, (∀ k, xs.getD k 0 = ys.getD k 0) → lenF (fun k => xs.getD k 0) xs.length = lenF (fun k => ys.getD k 0) ys.length := by
    intro xs ys h
    rw [show (fun k => ys.getD k 0) = (fun k => xs.getD k 0) from funext fun k => (h k).symm]
    have h1 := lenF_le (fun k => xs.getD k 0) xs.length
    refine (lenF_eq ?_ ?_ ?_).symm
    · rcases Nat.eq_zero_or_pos (lenF (fun k => xs.getD k 0) xs.length) with h0 | h0
      · exact .inl h0
      · exact .inr (lenF_last (f := fun k => xs.getD k 0) (by omega))
    · rcases Nat.eq_zero_or_pos (lenF (fun k => xs.getD k 0) xs.length) with h0 | h0
      · omega
      · have hl := lenF_last (f := fun k => xs.getD k 0) (n := xs.length) (by omega)
        rcases Nat.lt_or_ge (lenF (fun k => xs.getD k 0) xs.length - 1) ys.length with h2 | h2
        · omega
        · exact absurd ((h _).trans (getD_behind h2)) hl
    · intro k hk hk'
      show xs.getD k 0 = 0
      rcases Nat.lt_or_ge k xs.length with h2 | h2
      · exact lenF_behind (f := fun k => xs.getD k 0) hk h2
      · exact getD_behind h2
  have hk := key h
  unfold trimL
  rw [← hk]
  split
  · rfl
  · rename_i h0
    have l1 := lenF_le (fun k => xs.getD k 0) xs.length
    have l2 := lenF_le (fun k => ys.getD k 0) ys.length
    rw [← hk] at l2
    apply List.ext_getElem
    · rw [List.length_take, List.length_take]; omega
    · intro i h1 h2
      rw [List.length_take] at h1 h2
      have := h i
      simp [List.getD_eq_getElem?_getD, show i < xs.length by omega, show i < ys.length by omega] at this
      simpa using this
theorem trimL_idem (xs : List Int) : trimL (trimL xs) = trimL xs := trimL_congr (trimL_getD xs)
theorem trimL_all {xs : List Int} {p : Int → Prop} (h0 : p 0) (h : ∀ x ∈ xs, p x) : ∀ x ∈ trimL xs, p x := by
  intro x hx
  unfold trimL at hx
  split at hx
  · simp at hx; rw [hx]; exact h0
  · exact h x (List.mem_of_mem_take hx)

end Go.Proofs.YtplioelpmfeabaaDoor
