/- Plain facts on the value of terms, without any program. -/
import Derived.Test.YtiobdgnhfecjnaaPb
import Derived.Test.YtiobdgnhfecjnaaMe
namespace Go.Proofs.Ytiobdgnhfecjnaa
open Go.RowKit
set_option linter.unusedVariables false

/-- The two last continuants of the last j terms. -/
def ftc (xs : List Int) : Nat → Int × Int
  | 0 => (1, 0)
  | j + 1 => (xs.getD (xs.length - 1 - j) 0 * (ftc xs j).1 + (ftc xs j).2, (ftc xs j).1)
def FtHead (xs : List Int) : Prop := 1 ≤ xs.length ∧ xs.length ≤ 40 ∧ -1000000000 ≤ xs.getD 0 0 ∧ xs.getD 0 0 ≤ 1000000000
def FtOk (xs : List Int) : Prop := FtHead xs ∧ ∀ i, 1 ≤ i → i < xs.length → 1 ≤ xs.getD i 0 ∧ xs.getD i 0 ≤ 1000000000
def FtBig (xs : List Int) : Prop := ∃ j, 1 ≤ j ∧ j + 1 ≤ xs.length ∧ 1000000 < (ftc xs j).1
/-- What the value of terms is, with its code. -/
def FtRes (xs : List Int) (n d c : Int) : Prop :=
  (¬ FtOk xs ∧ n = 0 ∧ d = 0 ∧ c = 1) ∨ (FtOk xs ∧ FtBig xs ∧ n = 0 ∧ d = 0 ∧ c = 2) ∨
  (FtOk xs ∧ ¬ FtBig xs ∧ n = mkN (ftc xs xs.length).1 (ftc xs xs.length).2 ∧ d = mkD (ftc xs xs.length).1 (ftc xs xs.length).2 ∧ c = mkC (ftc xs xs.length).1 (ftc xs xs.length).2)
theorem FtRes.unique {xs : List Int} {n d c n' d' c' : Int} (h : FtRes xs n d c) (h' : FtRes xs n' d' c') : n = n' ∧ d = d' ∧ c = c' := by
  rcases h with ⟨h1, rfl, rfl, rfl⟩ | ⟨h1, h2, rfl, rfl, rfl⟩ | ⟨h1, h2, rfl, rfl, rfl⟩ <;>
    rcases h' with ⟨k1, rfl, rfl, rfl⟩ | ⟨k1, k2, rfl, rfl, rfl⟩ | ⟨k1, k2, rfl, rfl, rfl⟩ <;>
    first | exact ⟨rfl, rfl, rfl⟩ | exact absurd h1 k1 | exact absurd k1 h1 | exact absurd h2 k2 | exact absurd k2 h2
theorem FtRes.no {xs : List Int} (h : ¬ FtOk xs) : FtRes xs 0 0 1 := .inl ⟨h, rfl, rfl, rfl⟩
theorem FtRes.big {xs : List Int} (h : FtOk xs) (h2 : FtBig xs) : FtRes xs 0 0 2 := .inr (.inl ⟨h, h2, rfl, rfl, rfl⟩)
theorem FtRes.yes {xs : List Int} (h : FtOk xs) (h2 : ¬ FtBig xs) : FtRes xs (mkN (ftc xs xs.length).1 (ftc xs xs.length).2) (mkD (ftc xs xs.length).1 (ftc xs xs.length).2) (mkC (ftc xs xs.length).1 (ftc xs xs.length).2) :=
  .inr (.inr ⟨h, h2, rfl, rfl, rfl⟩)
/-- So far no continuant was too great. -/
def Small (xs : List Int) (j : Nat) : Prop := ∀ m, 1 ≤ m → m ≤ j → (ftc xs m).1 ≤ 1000000
theorem Small.start (xs : List Int) : Small xs 0 := fun m h1 h2 => absurd h1 (by omega)
theorem Small.step {xs : List Int} {j : Nat} (h : Small xs j) (hs : (ftc xs (j + 1)).1 ≤ 1000000) : Small xs (j + 1) := by
  intro m h1 h2
  rcases Nat.lt_or_ge m (j + 1) with h3 | h3
  · exact h m h1 (by omega)
  · obtain rfl : m = j + 1 := by omega
    exact hs
theorem Small.notBig {xs : List Int} (h : Small xs (xs.length - 1)) : ¬ FtBig xs := by
  rintro ⟨j, h1, h2, h3⟩
  have := h j h1 (by omega)
  omega
theorem ftc_in {xs : List Int} (hok : FtOk xs) : ∀ j, j + 1 ≤ xs.length → Small xs j → 0 ≤ (ftc xs j).1 ∧ (ftc xs j).1 ≤ 1000000 ∧ 0 ≤ (ftc xs j).2 ∧ (ftc xs j).2 ≤ 1000000
  | 0, _, _ => by simp [ftc]
  | j + 1, hj, hs => by
    obtain ⟨h1, h2, h3, h4⟩ := ftc_in hok j (by omega) (fun m a b => hs m a (by omega))
    have h5 := hs (j + 1) (by omega) (by omega)
    have h6 := hok.2 (xs.length - 1 - j) (by omega) (by omega)
    refine ⟨?_, h5, h1, h2⟩
    show 0 ≤ xs.getD (xs.length - 1 - j) 0 * (ftc xs j).1 + (ftc xs j).2
    have := Int.mul_nonneg (show 0 ≤ xs.getD (xs.length - 1 - j) 0 by omega) h1
    omega
theorem ft_prod {x n : Int} (h1 : -1000000000 ≤ x) (h2 : x ≤ 1000000000) (h3 : 0 ≤ n) (h4 : n ≤ 1000000) : -1000000000000000 ≤ x * n ∧ x * n ≤ 1000000000000000 := by
  have a : (x * n).natAbs ≤ 1000000000 * 1000000 := by rw [Int.natAbs_mul]; exact Nat.mul_le_mul (by omega) (by omega)
  omega
theorem ft_any {xs : List Int} (hok : FtOk xs) (i : Nat) (hi : i < xs.length) : -1000000000 ≤ xs.getD i 0 ∧ xs.getD i 0 ≤ 1000000000 := by
  rcases Nat.eq_zero_or_pos i with h | h
  · subst h; exact ⟨hok.1.2.2.1, hok.1.2.2.2⟩
  · have := hok.2 i h hi; omega

end Go.Proofs.Ytiobdgnhfecjnaa
