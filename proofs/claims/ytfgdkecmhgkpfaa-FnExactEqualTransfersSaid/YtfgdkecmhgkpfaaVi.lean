/- Walks: TrimPoly. -/
import Derived.Test.YtfgdkecmhgkpfaaVh
namespace Go.Proofs.Ytfgdkecmhgkpfaa
open Go.RowKit
set_option linter.unusedVariables false
set_option linter.unusedSimpArgs false

theorem IntsIs.mk {r : List Int × Int} {ys : List Int} {code : Int} {w w' : World} {A : Option Addr} {n c : Nat} (h : (ys, code) = r) (hn : n = ys.length) (hl : ys.length ≤ 1048576) (hO : Own w' w.heap.size w'.heap.size A c ys) (hb : Below w.heap.size w w') :
    IntsIs r w (.returned (.tuple #[.slice A n c, .int .i64 code])) w' := by
  subst hn
  exact ⟨_, _, _, _, rfl, h, hl, hO, hb⟩
theorem IntsIs.nil_ {r : List Int × Int} {code : Int} {w w' : World} (h : ([], code) = r) (hb : Below w.heap.size w w') :
    IntsIs r w (.returned (.tuple #[.slice none 0 0, .int .i64 code])) w' := ⟨[], _, none, 0, rfl, h, by simp, Own.nil _ _ _, hb⟩
/-- A polynomial, or a code if its degree is too great. -/
def fitR (xs : List Int) : List Int × Int := if 65 < xs.length then ([], 5) else (xs, 0)
theorem fitR_big {xs : List Int} (h : 65 < xs.length) : ([], 5) = fitR xs := (if_pos h).symm
theorem fitR_ok {xs : List Int} (h : ¬ 65 < xs.length) : (xs, 0) = fitR xs := (if_neg h).symm
def trimOf (xs : List Int) : List Int × Int := if smps xs then fitR (trimL xs) else ([], 1)
theorem trimOf_no {xs : List Int} (h : smps xs = false) : ([], 1) = trimOf xs := by simp [trimOf, h]
theorem trimOf_yes {xs : List Int} (h : smps xs = true) : fitR (trimL xs) = trimOf xs := by simp [trimOf, h]

theorem l04Fit_any (A : Option Addr) (c : Nat) (xs : List Int) (w : World) (h : Arg w A c xs) : Calls Try.prog 67 #[.slice A xs.length c] w (IntsIs (fitR (trimL xs)) w) := by
  have HT := Lib.hid (l04Trim_any A c xs w h)
  have hl := h.len
  have hle := trimL_le xs
  clear h
  by_cases hb : 65 < (trimL xs).length
  · have HF := Lib.hid (fitR_big hb)
    generalize fitR (trimL xs) = r at *
    generalize trimL xs = ys at *
    generalize xs.length = n at *
    go_enter Try.func67, Try.ntmps67
    go_wp2_with fail
    refine HT.out.mono ?_
    rintro e w1 ⟨A', c', rfl, hO, hbl⟩
    go_wp2
    go_ret2
    exact IntsIs.nil_ HF.out hbl
  · have HF := Lib.hid (fitR_ok hb)
    generalize fitR (trimL xs) = r at *
    generalize trimL xs = ys at *
    generalize xs.length = n at *
    go_enter Try.func67, Try.ntmps67
    go_wp2_with fail
    refine HT.out.mono ?_
    rintro e w1 ⟨A', c', rfl, hO, hbl⟩
    go_wp2
    go_ret2
    exact IntsIs.mk HF.out rfl (by omega) hO hbl

end Go.Proofs.Ytfgdkecmhgkpfaa
