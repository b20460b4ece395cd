/- Walks: TrimPoly. -/
import Derived.Test.YtplioelpmfeabaaDoorVh
namespace Go.Proofs.YtplioelpmfeabaaDoor
open Go.RowKit
set_option linter.unusedVariables false
set_option linter.unusedSimpArgs false

theorem IntsIs.mk {r : List Int × Int} {ys : List Int} {code : Int} {w w' : World} {A : Option Addr} {n c : Nat} (h : (ys, code) = r) (hn : n = ys.length) (hl : ys.length ≤ 1048576) (hO : Own w' w.heap.size w'.heap.size A c ys) (hb : Below w.heap.size w w') :
    IntsIs r w (.returned (.tuple #[.slice A n c, .int .i64 code])) w' := by
  subst hn
  exact ⟨_, _, _, _, rfl, h, hl, hO, hb⟩
theorem IntsIs.nil_ {r : List Int × Int} {code : Int} {w w' : World} (h : ([], code) = r) (hb : Below w.heap.size w w') :
    IntsIs r w (.returned (.tuple #[.slice none 0 0, .int .i64 code])) w' := ⟨[], _, none, 0, rfl, h, by simp, Own.nil _ _ _, hb⟩
/-- A polynomial, or a code if its degree is too great. -/
def fitR (xs : List Int) : List Int × Int := if 65 < xs.length then ([], 5) else (xs, 0)
theorem fitR_big {xs : List Int} (h : 65 < xs.length) : ([], 5) = fitR xs := (if_pos h).symm
theorem fitR_ok {xs : List Int} (h : ¬ 65 < xs.length) : (xs, 0) = fitR xs := (if_neg h).symm
def trimOf (xs : List Int) : List Int × Int := if smps xs then fitR (trimL xs) else ([], 1)
theorem trimOf_no {xs : List Int} (h : smps xs = false) : ([], 1) = trimOf xs := by simp [trimOf, h]
theorem trimOf_yes {xs : List Int} (h : smps xs = true) : fitR (trimL xs) = trimOf xs := by simp [trimOf, h]


end Go.Proofs.YtplioelpmfeabaaDoor
