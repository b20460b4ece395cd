/- Walks: sums and products of polynomials. -/
import Derived.Test.YtplioelpmfeabaaDoorVn
namespace Go.Proofs.YtplioelpmfeabaaDoor
open Go.RowKit
set_option linter.unusedVariables false
set_option linter.unusedSimpArgs false

theorem pol_len {xs : List Int} (h : polB xs = true) : 1 ≤ xs.length ∧ xs.length ≤ 65 := ⟨(polB_inv h).1, (polB_inv h).2.1⟩
theorem pol_smp {xs : List Int} (h : polB xs = true) : Smp xs := .of (polB_inv h).2.2.1

set_option maxHeartbeats 1000000 in
theorem arePolys_any (A : Option Addr) (c : Nat) (xs : List Int) (A2 : Option Addr) (c2 : Nat) (ys : List Int) (w : World) (h : Arg w A c xs) (h2 : Arg w A2 c2 ys) :
    Calls Tryd.prog 83 #[.slice (some ⟨w.heap.size, 0, none⟩) 2 2] (w.alloc (.cells #[.slice A xs.length c, .slice A2 ys.length c2] 40)) fun e w' => e = .returned (.bool (polB xs && polB ys)) ∧ w.alloc (.cells #[.slice A xs.length c, .slice A2 ys.length c2] 40) = w' := by
  have HA := Lib.hid (isPoly_any A c xs _ _ (h.alloc (.cells #[.slice A xs.length c, .slice A2 ys.length c2] 40)).sl (by have := h.len; omega))
  have HA2 := Lib.hid (isPoly_any A2 c2 ys _ _ (h2.alloc (.cells #[.slice A xs.length c, .slice A2 ys.length c2] 40)).sl (by have := h2.len; omega))
  have c0 : (w.alloc (.cells #[.slice A xs.length c, .slice A2 ys.length c2] 40)).cell? ⟨w.heap.size, 0, none⟩ = some (.slice A xs.length c) := by go_simp
  have c1 : (w.alloc (.cells #[.slice A xs.length c, .slice A2 ys.length c2] 40)).cell? ⟨w.heap.size, 1, none⟩ = some (.slice A2 ys.length c2) := by go_simp
  clear h h2
  generalize polB xs = b at *
  generalize polB ys = b2 at *
  generalize xs.length = n at *
  generalize ys.length = n2 at *
  generalize w.alloc (.cells #[.slice A n c, .slice A2 n2 c2] 40) = W at *
  generalize w.heap.size = g at *
  go_enter Tryd.func83, Tryd.ntmps83
  go_wp2_with fail
  go_loop [4, 7] (fun _ t => ∃ k : Nat, k ≤ 2 ∧ t = .int .i64 k ∧ (0 < k → b = true) ∧ (1 < k → b2 = true)) (fun _ t => 2 - (intOf t).toNat)
  case atStart => exact ⟨0, by omega, rfl, by omega, by omega⟩
  case round =>
    obtain ⟨k, hk, rfl, hk0, hk1⟩ := hrel
    have K0 := Lib.hid hk0
    have K1 := Lib.hid hk1
    clear hk0 hk1
    obtain rfl | rfl | rfl : k = 0 ∨ k = 1 ∨ k = 2 := by omega
    · cases b
      · go_wp2_with (go_at_call 103; refine HA.out.mono ?_; rintro e w1 ⟨rfl, rfl⟩)
        go_ret
        exact ⟨rfl, rfl⟩
      · go_wp2_with (go_at_call 103; refine HA.out.mono ?_; rintro e w1 ⟨rfl, rfl⟩)
        go_round
        case rel => exact ⟨1, by omega, rfl, fun _ => by simp, by omega⟩
        case measure => simp [intOf]
    · have g1 := K0.out (by omega)
      subst g1
      cases b2
      · go_wp2_with (go_at_call 103; refine HA2.out.mono ?_; rintro e w1 ⟨rfl, rfl⟩)
        go_ret
        exact ⟨rfl, rfl⟩
      · go_wp2_with (go_at_call 103; refine HA2.out.mono ?_; rintro e w1 ⟨rfl, rfl⟩)
        go_round
        case rel => exact ⟨2, by omega, rfl, fun _ => by simp, fun _ => by simp⟩
        case measure => simp [intOf]
    · have g1 := K0.out (by omega)
      have g2 := K1.out (by omega)
      subst g1 g2
      go_wp2
      go_ret
      exact ⟨rfl, rfl⟩

/-- A result over two polynomials. -/
def two (xs ys : List Int) (r : List Int × Int) : List Int × Int := if polB xs && polB ys then r else ([], 1)
theorem two_no {xs ys : List Int} {r : List Int × Int} (h : (polB xs && polB ys) = false) : ([], 1) = two xs ys r := by simp [two, h]
theorem two_yes {xs ys : List Int} {r : List Int × Int} (h : polB xs = true) (h' : polB ys = true) : r = two xs ys r := by simp [two, h, h']
def addPolyOf (g : Int) (xs ys : List Int) : List Int × Int := two xs ys (trimL (addT xs g ys), 0)
def mulOf (xs ys : List Int) : List Int × Int := two xs ys (fitR (mulL xs ys))
theorem addT_pol {g : Int} {xs ys : List Int} (h : polB xs = true) (h' : polB ys = true) : (addT xs g ys).length ≤ 65 ∧ (trimL (addT xs g ys)).length ≤ 65 := by
  have h1 := pol_len h
  have h2 := pol_len h'
  have h3 := addT_length xs g ys
  have h4 := trimL_le (addT xs g ys)
  omega


end Go.Proofs.YtplioelpmfeabaaDoor
