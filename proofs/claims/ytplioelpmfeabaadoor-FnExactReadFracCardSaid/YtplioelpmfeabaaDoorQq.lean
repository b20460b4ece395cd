/- Plain facts on texts of fractions; the walk of the reference's reading of numbers of at most ten digits. -/
import Derived.Test.YtplioelpmfeabaaDoorQp
import Derived.Test.YtplioelpmfeabaaDoorQf
import Derived.Lib.IndexMore
namespace Go.Proofs.YtplioelpmfeabaaDoor
open Go.RowKit
set_option linter.unusedVariables false
set_option linter.unusedSimpArgs false

/-- The number that a text of at most ten digits spells. -/
def int10 (l : List UInt8) : Int × Bool :=
  if (strip l).length < 1 ∨ 10 < (strip l).length then (0, false)
  else if (strip l).all dig = false then (0, false) else (numV l, true)
theorem int10_len {l : List UInt8} (h : (strip l).length < 1 ∨ 10 < (strip l).length) : int10 l = (0, false) := if_pos h
theorem int10_dig {l : List UInt8} (h : (strip l).all dig = false) : int10 l = (0, false) := by
  unfold int10
  by_cases h1 : (strip l).length < 1 ∨ 10 < (strip l).length
  · rw [if_pos h1]
  · rw [if_neg h1, if_pos h]
theorem int10_ok {l : List UInt8} (h1 : 1 ≤ (strip l).length) (h2 : (strip l).length ≤ 10) (h3 : (strip l).all dig = true) : int10 l = (numV l, true) := by
  unfold int10
  rw [if_neg (by omega), if_neg (by simp [h3])]
theorem nDigits_le {k u : Nat} (h : u < 10 ^ k) (hk : 1 ≤ k) : Lib.nDigits u ≤ k := by
  rcases Nat.lt_or_ge k (Lib.nDigits u) with h1 | h1
  · have hle : ∀ (k u : Nat), k < Lib.nDigits u → 0 < u → 10 ^ k ≤ u := by
      intro k
      induction k with
      | zero => intro u _ hu; rw [Nat.pow_zero]; omega
      | succ k ih =>
        intro u hk hu
        by_cases hs : u < 10
        · rw [Lib.nDigits_small hs] at hk; omega
        · rw [Lib.nDigits_big hs] at hk
          have := ih (u / 10) (by omega) (by omega)
          rw [Nat.pow_succ]; omega
    rcases Nat.eq_zero_or_pos u with h0 | h0
    · rw [h0, Lib.nDigits_small (by omega)] at h1; omega
    · have := hle k u h1 h0
      omega
  · exact h1
theorem int10_itoa {n : Int} (h1 : -10000000000 < n) (h2 : n < 10000000000) : int10 (Lib.itoa n) = (n, true) := by
  have h10 : (10 : Nat) ^ 10 = 10000000000 := by decide
  have hl : (strip (Lib.itoa n)).length ≤ 10 := by
    rw [itoa_strip, Lib.decDigits_length]
    exact nDigits_le (by rw [h10]; omega) (by omega)
  rw [int10_ok _ hl, itoa_numV]
  · rw [itoa_strip, List.all_eq_true]; exact dec_dig _
  · rw [itoa_strip, Lib.decDigits_length]; exact Lib.nDigits_pos _
theorem int10_bound {l : List UInt8} {n : Int} {b : Bool} (h : int10 l = (n, b)) : -10000000000 < n ∧ n < 10000000000 := by
  unfold int10 at h
  split at h
  · injection h with h _; subst h; exact ⟨by decide, by decide⟩
  · split at h
    · injection h with h _; subst h; exact ⟨by decide, by decide⟩
    · rename_i h1 h2
      injection h with h _
      subst h
      have h3 := val_lt (l := strip l) (List.all_eq_true.1 (by simpa using h2))
      have h4 : (10 : Nat) ^ (strip l).length ≤ 10 ^ 10 := Nat.pow_le_pow_right (by omega) (by omega)
      have h10 : (10 : Nat) ^ 10 = 10000000000 := by decide
      unfold numV
      split <;> omega

/-- Where the first byte c stands. -/
structure FirstAt (c : UInt8) (l : List UInt8) (i : Nat) : Prop where
  lt : i < l.length
  at_ : l.getD i 0 = c
  first : ∀ j, j < i → l.getD j 0 ≠ c
theorem firstAt_same {c : UInt8} {l : List UInt8} {i j : Nat} (h : FirstAt c l i) (h' : FirstAt c l j) : i = j := by
  rcases Nat.lt_trichotomy i j with h1 | h1 | h1
  · exact absurd h.at_ (h'.first i h1)
  · exact h1
  · exact absurd h'.at_ (h.first j h1)
theorem occ_one (c : UInt8) (l : List UInt8) (j : Nat) : Lib.occAt l [c] j = true ↔ j < l.length ∧ l.getD j 0 = c := by
  unfold Lib.occAt
  constructor
  · intro h
    rw [List.isPrefixOf_iff_prefix] at h
    have hh : (l.drop j).head? = some c := by
      obtain ⟨t, ht⟩ := h
      rw [← ht]; rfl
    rw [List.head?_drop] at hh
    obtain ⟨h1, h2⟩ := List.getElem?_eq_some_iff.1 hh
    exact ⟨h1, by simp [List.getD_eq_getElem?_getD, h1, h2]⟩
  · rintro ⟨h1, h2⟩
    rw [List.isPrefixOf_iff_prefix]
    rw [List.drop_eq_getElem_cons h1]
    have : l[j] = c := by simpa [List.getD_eq_getElem?_getD, h1] using h2
    rw [this]
    exact ⟨_, rfl⟩
theorem cut_none {c : UInt8} {l : List UInt8} (h : ∀ j, j < l.length → l.getD j 0 ≠ c) : Lib.cut l [c] = (l, [], false) := by
  have : Lib.index l [c] = -1 := Lib.index_none fun j _ => by
    cases ho : Lib.occAt l [c] j
    · rfl
    · obtain ⟨h1, h2⟩ := (occ_one c l j).1 ho
      exact absurd h2 (h j h1)
  unfold Lib.cut
  rw [this, if_neg (by omega)]
theorem cut_at {c : UInt8} {l : List UInt8} {i : Nat} (h : FirstAt c l i) : Lib.cut l [c] = (l.take i, l.drop (i + 1), true) := by
  have : Lib.index l [c] = i := Lib.index_first (by have := h.lt; omega) ((occ_one c l i).2 ⟨h.lt, h.at_⟩) (fun j hj => by
    cases ho : Lib.occAt l [c] j
    · rfl
    · exact absurd ((occ_one c l j).1 ho).2 (h.first j hj))
  unfold Lib.cut
  rw [this, if_pos (by omega)]
  simp

/-- Which fraction a text is, as the program finds it. -/
def frNum (l : List UInt8) : Int × Bool := readN (Lib.cut l [47]).1
def frDen (l : List UInt8) : Int × Bool := if (Lib.cut l [47]).2.2 = true then readN (Lib.cut l [47]).2.1 else (1, true)
def fracRead (l : List UInt8) : Int × Int × Bool :=
  if (frNum l).2 = true ∧ (frDen l).2 = true ∧ okF (frNum l).1 (frDen l).1 = true ∧ fracT (frNum l).1 (frDen l).1 = l then ((frNum l).1, (frDen l).1, true) else (0, 0, false)
theorem slash_free (n : Int) : (47 : UInt8) ∉ Lib.itoa n := itoa_free n (by decide) (by decide)
theorem getD_ne {c : UInt8} {l : List UInt8} (h : c ∉ l) (j : Nat) (hj : j < l.length) : l.getD j 0 ≠ c := by
  intro e
  apply h
  rw [← e]
  simp [List.getD_eq_getElem?_getD, hj]
theorem first_in (a b : List UInt8) (h : (47 : UInt8) ∉ a) : FirstAt 47 (a ++ 47 :: b) a.length := by
  refine ⟨by simp, by simp [List.getD_eq_getElem?_getD], fun j hj => ?_⟩
  have := getD_ne h j hj
  rw [List.getD_eq_getElem?_getD, List.getElem?_append_left hj]
  rwa [List.getD_eq_getElem?_getD] at this
/-- The text of a valid fraction is read as that fraction. -/
theorem frac_parts {n d : Int} (h : okF n d = true) : (frNum (frT n d) = (n, true) ∧ frDen (frT n d) = (d, true)) := by
  obtain ⟨h1, h2, h3, h4, -⟩ := okF_inv h
  unfold frNum frDen
  by_cases h5 : d = 1
  · subst h5
    have e : frT n 1 = Lib.itoa n := if_pos rfl
    rw [e, cut_none (getD_ne (slash_free n))]
    exact ⟨readN_itoa (by omega) (by omega), rfl⟩
  · have e : frT n d = Lib.itoa n ++ 47 :: Lib.itoa d := if_neg h5
    rw [e, cut_at (first_in _ _ (slash_free n))]
    simp only [if_true]
    rw [List.take_left', List.drop_append]
    · refine ⟨readN_itoa (by omega) (by omega), ?_⟩
      have e2 : List.drop ((Lib.itoa n).length + 1) (Lib.itoa n) ++ List.drop ((Lib.itoa n).length + 1 - (Lib.itoa n).length) (47 :: Lib.itoa d) = Lib.itoa d := by
        rw [List.drop_of_length_le (by omega), show (Lib.itoa n).length + 1 - (Lib.itoa n).length = 1 by omega]; rfl
      rw [e2]
      exact readN_itoa (by omega) (by omega)
    · rfl
theorem fracRead_yes {n d : Int} {l : List UInt8} (h : fracT n d = l) (hne : l ≠ []) : fracRead l = (n, d, true) := by
  cases hok : okF n d
  · rw [← fracT_no hok] at h
    exact absurd h.symm hne
  · rw [← fracT_yes hok] at h
    subst h
    obtain ⟨h1, h2⟩ := frac_parts hok
    unfold fracRead
    rw [h1, h2, if_pos ⟨rfl, rfl, hok, (fracT_yes hok).symm⟩]
theorem fracRead_inv {l : List UInt8} (h : fracRead l ≠ (0, 0, false)) : ∃ n d, okF n d = true ∧ frT n d = l := by
  by_cases hc : (frNum l).2 = true ∧ (frDen l).2 = true ∧ okF (frNum l).1 (frDen l).1 = true ∧ fracT (frNum l).1 (frDen l).1 = l
  · exact ⟨_, _, hc.2.2.1, by rw [fracT_yes hc.2.2.1]; exact hc.2.2.2⟩
  · exact absurd (if_neg hc) h
theorem fracRead_no {l : List UInt8} (h : ∀ n d, okF n d = true → frT n d ≠ l) : fracRead l = (0, 0, false) := by
  by_cases hc : fracRead l = (0, 0, false)
  · exact hc
  · obtain ⟨n, d, h1, h2⟩ := fracRead_inv hc
    exact absurd h2 (h n d h1)
/-- As the reference finds it: no slash. -/
theorem frac_noslash {l : List UInt8} (hs : ∀ j, j < l.length → l.getD j 0 ≠ 47) {n d : Int} (h : okF n d = true) (he : frT n d = l) : d = 1 ∧ int10 l = (n, true) := by
  obtain ⟨h1, h2, h3, h4, -⟩ := okF_inv h
  by_cases h5 : d = 1
  · have e : frT n d = Lib.itoa n := if_pos h5
    rw [← he, e]
    exact ⟨h5, int10_itoa (by omega) (by omega)⟩
  · have e : frT n d = Lib.itoa n ++ 47 :: Lib.itoa d := if_neg h5
    have hf := first_in (Lib.itoa n) (Lib.itoa d) (slash_free n)
    rw [← e, he] at hf
    exact absurd hf.at_ (hs _ hf.lt)
theorem frac_slash {l : List UInt8} {i : Nat} (hs : FirstAt 47 l i) {n d : Int} (h : okF n d = true) (he : frT n d = l) : int10 (l.take i) = (n, true) ∧ int10 (l.drop (i + 1)) = (d, true) := by
  obtain ⟨h1, h2, h3, h4, -⟩ := okF_inv h
  by_cases h5 : d = 1
  · have e : frT n d = Lib.itoa n := if_pos h5
    rw [← he, e] at hs
    exact absurd hs.at_ (getD_ne (slash_free n) i hs.lt)
  · have e : frT n d = Lib.itoa n ++ 47 :: Lib.itoa d := if_neg h5
    have hf := first_in (Lib.itoa n) (Lib.itoa d) (slash_free n)
    rw [← e, he] at hf
    obtain rfl := firstAt_same hs hf
    rw [← he, e]
    rw [List.take_left', List.drop_append]
    · refine ⟨int10_itoa (by omega) (by omega), ?_⟩
      have e2 : List.drop ((Lib.itoa n).length + 1) (Lib.itoa n) ++ List.drop ((Lib.itoa n).length + 1 - (Lib.itoa n).length) (47 :: Lib.itoa d) = Lib.itoa d := by
        rw [List.drop_of_length_le (by omega), show (Lib.itoa n).length + 1 - (Lib.itoa n).length = 1 by omega]; rfl
      rw [e2]
      exact int10_itoa (by omega) (by omega)
    · rfl

end Go.Proofs.YtplioelpmfeabaaDoor
