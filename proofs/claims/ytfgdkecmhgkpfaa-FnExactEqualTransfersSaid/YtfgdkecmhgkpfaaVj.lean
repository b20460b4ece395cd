/- Walks: elements behind the end, parts of signals, sums. -/
import Derived.Test.YtfgdkecmhgkpfaaVi
import Derived.Test.YtfgdkecmhgkpfaaVf
namespace Go.Proofs.Ytfgdkecmhgkpfaa
open Go.RowKit
set_option linter.unusedVariables false
set_option linter.unusedSimpArgs false

/-- All numbers of a list are samples. -/
def Smp (xs : List Int) : Prop := ∀ k, -2147483648 ≤ xs.getD k 0 ∧ xs.getD k 0 ≤ 2147483647
theorem Smp.of {xs : List Int} (h : smps xs = true) : Smp xs := fun _ => sgetD h
theorem Smp.all {xs : List Int} (h : ∀ x ∈ xs, -2147483648 ≤ x ∧ x ≤ 2147483647) : Smp xs := by
  intro k
  rcases Nat.lt_or_ge k xs.length with hk | hk
  · have := h xs[k] (List.getElem_mem hk)
    simpa [List.getD_eq_getElem?_getD, hk] using this
  · rw [getD_behind hk]; exact ⟨by omega, by omega⟩
/-- A call that answers a number and leaves the world. -/
def NumIs (n : Int) (w : World) (e : Ending) (w' : World) : Prop := e = .returned (.int .i64 n) ∧ w = w'

theorem l03At_any (A : Option Addr) (c : Nat) (xs : List Int) (w : World) (h : Arg w A c xs) (i : Int) (k : Nat) (hi : i = k) (hk : k ≤ 1099511627776) : Calls Try.prog 57 #[.slice A xs.length c, .int .i64 i] w (NumIs (xs.getD k 0) w) := by
  subst hi
  have hl := h.len
  have HS := Lib.hid h.sl
  clear h
  by_cases hlt : k < xs.length
  · obtain ⟨b, o, rfl, _, hc⟩ := HS.out (by omega)
    have e1 := hc k hlt
    clear hc HS
    have G : Hid (inB 0 ((xs.length : Int) - 1) (k : Int) = true) := inB_mk (by omega) (by omega)
    generalize xs.getD k 0 = v at *
    generalize xs.length = n at *
    go_enter Try.func57, Try.ntmps57
    go_wp2_with (go_at_call 36; refine (l00In_is _ _ _ _ _ G.out).mono ?_; rintro e w' ⟨rfl, rfl⟩)
    go_ret
    exact ⟨rfl, rfl⟩
  · have HV := Lib.hid (getD_behind (xs := xs) (k := k) (by omega))
    have G : Hid (inB 0 ((xs.length : Int) - 1) (k : Int) = false) := inB_false.2 (by omega)
    clear HS
    generalize xs.getD k 0 = v at *
    generalize xs.length = n at *
    obtain rfl := HV.out
    go_enter Try.func57, Try.ntmps57
    go_wp2_with (go_at_call 36; refine (l00In_is _ _ _ _ _ G.out).mono ?_; rintro e w' ⟨rfl, rfl⟩)
    go_ret
    exact ⟨rfl, rfl⟩
theorem size_any (A : Option Addr) (n c : Nat) (w : World) : Calls Try.prog 45 #[.slice A n c] w (NumIs n w) := by
  go_enter Try.func45, Try.ntmps45
  go_wp2
  go_ret
  exact ⟨rfl, rfl⟩
theorem isCount_any (n : Int) (w : World) : Calls Try.prog 39 #[.int .i64 n] w fun e w' => e = .returned (.bool (inB 0 4000 n)) ∧ w = w' := by
  go_enter Try.func39, Try.ntmps39
  go_wp2_with (go_at_call 61; refine (within_any _ _ _ _).mono ?_; rintro e w' ⟨rfl, rfl⟩)
  go_ret
  exact ⟨rfl, rfl⟩
theorem at_any (A : Option Addr) (c : Nat) (xs : List Int) (w : World) (h : Arg w A c xs) (i : Int) (k : Nat) (hi : i = k) (hk : k ≤ 1099511627776) : Calls Try.prog 63 #[.slice A xs.length c, .int .i64 i] w (NumIs (xs.getD k 0) w) := by
  subst hi
  have hl := h.len
  have HS := Lib.hid h.sl
  clear h
  by_cases hlt : k < xs.length
  · obtain ⟨b, o, rfl, _, hc⟩ := HS.out (by omega)
    have e1 := hc k hlt
    clear hc HS
    generalize xs.getD k 0 = v at *
    generalize xs.length = n at *
    go_enter Try.func63, Try.ntmps63
    go_wp2_with (go_at_call 45; refine (size_any _ _ _ _).mono ?_; rintro e w' ⟨rfl, rfl⟩)
    go_ret
    exact ⟨rfl, rfl⟩
  · have HV := Lib.hid (getD_behind (xs := xs) (k := k) (by omega))
    clear HS
    generalize xs.getD k 0 = v at *
    generalize xs.length = n at *
    obtain rfl := HV.out
    go_enter Try.func63, Try.ntmps63
    go_wp2_with (go_at_call 45; refine (size_any _ _ _ _).mono ?_; rintro e w' ⟨rfl, rfl⟩)
    go_ret
    exact ⟨rfl, rfl⟩
/-- A fresh slice of n numbers. -/
def FreshN (n : Nat) (xs : List Int) (w : World) (e : Ending) (w' : World) : Prop :=
  ∃ A c, e = .returned (.slice A n c) ∧ Own w' w.heap.size w'.heap.size A c xs ∧ Below w.heap.size w w'
theorem zerosN_any (i : Int) (n : Nat) (hi : i = n) (w : World) (hn : n ≤ 4194304) : Calls Try.prog 54 #[.int .i64 i] w (FreshN n (List.replicate n 0) w) := by
  subst hi
  refine (zeros_any n w hn).mono ?_
  rintro e w' ⟨A, c, rfl, hO, hb⟩
  exact ⟨A, c, by rw [List.length_replicate], hO, hb⟩

end Go.Proofs.Ytfgdkecmhgkpfaa
