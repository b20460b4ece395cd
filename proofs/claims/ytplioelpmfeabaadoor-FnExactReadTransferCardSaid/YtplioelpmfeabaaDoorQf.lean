/- Plain facts on texts of signals: what is written, what is read, without any program. -/
import Derived.Test.YtplioelpmfeabaaDoorQe
import Derived.Test.YtplioelpmfeabaaDoorVb
namespace Go.Proofs.YtplioelpmfeabaaDoor
open Go.RowKit
set_option linter.unusedVariables false
set_option linter.unusedSimpArgs false

/-- Are all parts numbers? Which? -/
def okAll (ws : List (List UInt8)) : Bool := ws.all fun w => (readN w).2
def numsOf (ws : List (List UInt8)) : List Int := ws.map fun w => (readN w).1
theorem numsOf_length (ws : List (List UInt8)) : (numsOf ws).length = ws.length := by simp [numsOf]
theorem numsOf_snoc (ws : List (List UInt8)) (w : List UInt8) : numsOf (ws ++ [w]) = numsOf ws ++ [(readN w).1] := by simp [numsOf]
theorem okAll_no {ws : List (List UInt8)} {w : List UInt8} (h : w ∈ ws) (hb : (readN w).2 = false) : okAll ws = false := by
  unfold okAll
  rw [List.all_eq_false]
  exact ⟨w, h, by simp [hb]⟩
theorem okAll_yes {ws : List (List UInt8)} (h : ∀ w ∈ ws, (readN w).2 = true) : okAll ws = true := by
  unfold okAll
  rw [List.all_eq_true]
  exact h
theorem okAll_inv {ws : List (List UInt8)} (h : okAll ws = true) {w : List UInt8} (hw : w ∈ ws) : Lib.itoa (readN w).1 = w := by
  unfold okAll at h
  rw [List.all_eq_true] at h
  exact (readN_inv (n := (readN w).1) (l := w) (by rw [← h w hw])).1
/-- Numbers with blanks between them. -/
def textN (xs : List Int) : List UInt8 := joinC 32 (xs.map Lib.itoa)
theorem textN_nil : textN [] = [] := rfl
theorem itoas (ws : List (List UInt8)) (h : okAll ws = true) : (numsOf ws).map Lib.itoa = ws := by
  unfold numsOf
  rw [List.map_map]
  conv => rhs; rw [← List.map_id ws]
  apply List.map_congr_left
  intro w hw
  exact okAll_inv h hw
theorem dig_blank : dig 32 = false := by decide
theorem texts_free (xs : List Int) : ∀ p ∈ xs.map Lib.itoa, (32 : UInt8) ∉ p := by
  intro p hp
  obtain ⟨n, _, rfl⟩ := List.mem_map.1 hp
  exact itoa_free n (by decide) dig_blank
/-- A list whose numbers have at most 18 digits is what its text reads as. -/
theorem readN_itoa {n : Int} (h1 : -1000000000000000000 < n) (h2 : n < 1000000000000000000) : readN (Lib.itoa n) = (n, true) := by
  refine readN_yes rfl ?_
  rw [itoa_strip, Lib.decDigits_length]
  rcases Nat.eq_zero_or_pos n.natAbs with h0 | h0
  · rw [h0, Lib.nDigits_small (by omega)]; omega
  · by_cases h : 18 < Lib.nDigits n.natAbs
    · have hle : ∀ (k u : Nat), k < Lib.nDigits u → 0 < u → 10 ^ k ≤ u := by
        intro k
        induction k with
        | zero => intro u _ hu; rw [Nat.pow_zero]; omega
        | succ k ih =>
          intro u hk hu
          by_cases hs : u < 10
          · rw [Lib.nDigits_small hs] at hk; omega
          · rw [Lib.nDigits_big hs] at hk
            have := ih (u / 10) (by omega) (by omega)
            rw [Nat.pow_succ]; omega
      have h18 := hle 18 n.natAbs h h0
      have e18 : (10 : Nat) ^ 18 = 1000000000000000000 := by decide
      omega
    · omega

/-- Which signal a text is, as the program finds it. -/
def sigRead (l : List UInt8) : List Int × Bool :=
  if okAll (words l) = true ∧ sigB (numsOf (words l)) = true ∧ textN (numsOf (words l)) = l then (numsOf (words l), true) else ([], false)
theorem sigRead_yes {l : List UInt8} (h1 : okAll (words l) = true) (h2 : sigB (numsOf (words l)) = true) (h3 : textN (numsOf (words l)) = l) : sigRead l = (numsOf (words l), true) := if_pos ⟨h1, h2, h3⟩
theorem sigRead_no {l : List UInt8} (h : okAll (words l) = false ∨ sigB (numsOf (words l)) = false ∨ textN (numsOf (words l)) ≠ l) : sigRead l = ([], false) := by
  unfold sigRead
  rw [if_neg]
  rintro ⟨h1, h2, h3⟩
  rcases h with h | h | h
  · rw [h1] at h; cases h
  · rw [h2] at h; cases h
  · exact h h3
/-- As the reference finds it. -/
def smpN (w : List UInt8) : Bool := (readN w).2 && inB (-2147483648) 2147483647 (readN w).1
theorem sigRead_empty : sigRead [] = ([], true) := by
  have h1 : okAll (words []) = true := rfl
  have h2 : sigB (numsOf (words [])) = true := by decide
  rw [sigRead_yes h1 h2 rfl]; rfl
theorem sig_nums {ws : List (List UInt8)} (hl : ws.length ≤ 4000) (h : ∀ w ∈ ws, smpN w = true) : okAll ws = true ∧ sigB (numsOf ws) = true := by
  have h' : ∀ w ∈ ws, (readN w).2 = true ∧ inB (-2147483648) 2147483647 (readN w).1 = true := fun w hw => by
    have := h w hw
    unfold smpN at this
    simpa using this
  refine ⟨okAll_yes fun w hw => (h' w hw).1, ?_⟩
  rw [sigB_short (by rw [numsOf_length]; exact hl)]
  unfold smps
  rw [List.all_eq_true]
  intro x hx
  obtain ⟨w, hw, rfl⟩ := List.mem_map.1 hx
  exact (h' w hw).2
theorem sigRead_all {l : List UInt8} (hl : (pieces 32 l).length ≤ 4000) (h : ∀ w ∈ pieces 32 l, smpN w = true) : sigRead l = (numsOf (pieces 32 l), true) := by
  obtain ⟨h1, h2⟩ := sig_nums hl h
  have hw : words l = pieces 32 l := words_all fun p hp e => by
    have := okAll_inv h1 hp
    rw [e] at this
    exact itoa_ne _ this
  have h3 : textN (numsOf (pieces 32 l)) = l := by
    unfold textN
    rw [itoas _ h1, join_pieces]
  rw [← hw] at h1 h2 h3 ⊢
  exact sigRead_yes h1 h2 h3
theorem sig_words {l : List UInt8} (hne : l ≠ []) (h : sigRead l ≠ ([], false)) : (pieces 32 l).length ≤ 4000 ∧ ∀ w ∈ pieces 32 l, smpN w = true := by
  by_cases hc : okAll (words l) = true ∧ sigB (numsOf (words l)) = true ∧ textN (numsOf (words l)) = l
  · obtain ⟨h1, h2, h3⟩ := hc
    unfold textN at h3
    rw [itoas _ h1] at h3
    have hw : words l ≠ [] := fun e => by rw [e, joinC_nil] at h3; exact hne h3.symm
    have hp : pieces 32 l = words l := by
      have := pieces_join hw (words_free l)
      rwa [h3] at this
    obtain ⟨h4, h5⟩ := sigB_inv h2
    rw [hp]
    refine ⟨by rw [← numsOf_length]; exact h4, fun w hw => ?_⟩
    unfold smpN
    have e1 : (readN w).2 = true := by
      unfold okAll at h1
      rw [List.all_eq_true] at h1
      exact h1 w hw
    unfold smps at h5
    rw [List.all_eq_true] at h5
    rw [e1, h5 _ (List.mem_map.2 ⟨w, hw, rfl⟩)]
    rfl
  · exact absurd (if_neg hc) h
theorem sigRead_bad {l w : List UInt8} (hne : l ≠ []) (hw : w ∈ pieces 32 l) (h : smpN w = false) : sigRead l = ([], false) := by
  by_cases hc : sigRead l = ([], false)
  · exact hc
  · have := (sig_words hne hc).2 w hw
    rw [h] at this; cases this
theorem sigRead_long {l : List UInt8} (hne : l ≠ []) (h : 4000 < (pieces 32 l).length) : sigRead l = ([], false) := by
  by_cases hc : sigRead l = ([], false)
  · exact hc
  · have := (sig_words hne hc).1
    omega

end Go.Proofs.YtplioelpmfeabaaDoor
