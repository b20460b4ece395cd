/- Walks: are all numbers samples; a signal; a polynomial; equal lists. -/
import Derived.Test.YtplioelpmfeabaaDoorSl
import Derived.Test.YtplioelpmfeabaaDoorWa
namespace Go.Proofs.YtplioelpmfeabaaDoor
open Go.RowKit
set_option linter.unusedVariables false
set_option linter.unusedSimpArgs false

def smps (xs : List Int) : Bool := xs.all (inB (-2147483648) 2147483647)
theorem smps_yes {xs : List Int} (h : ∀ k, k < xs.length → inB (-2147483648) 2147483647 (xs.getD k 0) = true) : smps xs = true := by
  unfold smps
  rw [List.all_eq_true]
  intro x hx
  obtain ⟨k, hk, rfl⟩ := List.getElem_of_mem hx
  have := h k hk
  simpa [List.getD_eq_getElem?_getD, hk] using this
theorem smps_at {xs : List Int} (h : smps xs = true) (k : Nat) : inB (-2147483648) 2147483647 (xs.getD k 0) = true := by
  unfold smps at h
  rw [List.all_eq_true] at h
  rcases Nat.lt_or_ge k xs.length with hk | hk
  · have := h xs[k] (List.getElem_mem hk)
    simpa [List.getD_eq_getElem?_getD, hk] using this
  · simp [List.getD_eq_getElem?_getD, hk]; decide
theorem smps_no {xs : List Int} {k : Nat} (h : inB (-2147483648) 2147483647 (xs.getD k 0) = false) : smps xs = false := by
  rcases hs : smps xs with _ | _
  · rfl
  · rw [smps_at hs k] at h; cases h
theorem sgetD {xs : List Int} {k : Nat} (h : smps xs = true) : -2147483648 ≤ xs.getD k 0 ∧ xs.getD k 0 ≤ 2147483647 := inB_true.1 (smps_at h k)

set_option maxHeartbeats 1000000 in
theorem areSamples_any (A : Option Addr) (c : Nat) (xs : List Int) (w : World) (B : Nat) (h1 : Sl w B A xs) (hl : xs.length ≤ 1099511627776) :
    Calls Tryd.prog 80 #[.slice A xs.length c] w fun e w' => e = .returned (.bool (smps xs)) ∧ w = w' := by
  have HS := Lib.hid h1
  clear h1
  obtain ⟨f, hf⟩ : ∃ f : Nat → Int, ∀ k, xs.getD k 0 = f k := ⟨_, fun _ => rfl⟩
  have HF := Lib.hid hf
  clear hf
  generalize hn : xs.length = n at *
  have HN := Lib.hid hn
  clear hn
  generalize hs : smps xs = ok at *
  have HO := Lib.hid hs
  clear hs
  go_enter Tryd.func80, Tryd.ntmps80
  go_wp2
  go_loop [7, 4] (fun i _ => ∃ k : Nat, k ≤ n ∧ i = .int .i64 k ∧ ∀ j, j < k → inB (-2147483648) 2147483647 (f j) = true) (fun i _ => n - (intOf i).toNat)
  case atStart => exact ⟨0, by omega, rfl, fun j hj => absurd hj (by omega)⟩
  case round =>
    obtain ⟨k, hk, rfl, hall⟩ := hrel
    have HA := Lib.hid hall
    clear hall
    by_cases hlt : k < n
    · obtain ⟨b, o, rfl, hb, hcell⟩ := HS.out (by rw [HN.out]; omega)
      have e1 := hcell k (by rw [HN.out]; omega)
      rw [HF.out] at e1
      clear hcell
      cases g : inB (-2147483648) 2147483647 (f k)
      · have G := Lib.hid g
        clear g
        have hok : ok = false := by rw [← HO.out]; exact smps_no (k := k) (by rw [HF.out]; exact G.out)
        subst hok
        go_wp2_with (go_at_call 98; refine (isSample_any _ _).mono ?_; rw [G.out]; rintro e w' ⟨rfl, rfl⟩)
        go_ret
        exact ⟨rfl, rfl⟩
      · have G := Lib.hid g
        clear g
        go_wp2_with (go_at_call 98; refine (isSample_any _ _).mono ?_; rw [G.out]; rintro e w' ⟨rfl, rfl⟩)
        go_round
        case rel => exact ⟨k + 1, by omega, by go_num, fun j hj => by
          rcases Nat.lt_or_ge j k with h' | h'
          · exact HA.out j h'
          · obtain rfl : j = k := by omega
            exact G.out⟩
        case measure => simp [intOf]; omega
    · have hok : ok = true := by rw [← HO.out]; exact smps_yes (fun j hj => by rw [HF.out]; exact HA.out j (by rw [HN.out] at hj; omega))
      subst hok
      go_wp2
      go_ret
      exact ⟨rfl, rfl⟩
set_option maxHeartbeats 1000000 in
theorem l04Samples_any (A : Option Addr) (c : Nat) (xs : List Int) (w : World) (B : Nat) (h1 : Sl w B A xs) (hl : xs.length ≤ 1099511627776) :
    Calls Tryd.prog 102 #[.slice A xs.length c] w fun e w' => e = .returned (.bool (smps xs)) ∧ w = w' := by
  have HS := Lib.hid h1
  clear h1
  obtain ⟨f, hf⟩ : ∃ f : Nat → Int, ∀ k, xs.getD k 0 = f k := ⟨_, fun _ => rfl⟩
  have HF := Lib.hid hf
  clear hf
  generalize hn : xs.length = n at *
  have HN := Lib.hid hn
  clear hn
  generalize hs : smps xs = ok at *
  have HO := Lib.hid hs
  clear hs
  go_enter Tryd.func102, Tryd.ntmps102
  go_wp2
  go_loop [3] (fun i => ∃ k : Nat, k ≤ n ∧ i = .int .i64 k ∧ ∀ j, j < k → inB (-2147483648) 2147483647 (f j) = true) (fun i => n - (intOf i).toNat)
  case atStart => exact ⟨0, by omega, rfl, fun j hj => absurd hj (by omega)⟩
  case round =>
    obtain ⟨k, hk, rfl, hall⟩ := hrel
    have HA := Lib.hid hall
    clear hall
    by_cases hlt : k < n
    · obtain ⟨b, o, rfl, hb, hcell⟩ := HS.out (by rw [HN.out]; omega)
      have e1 := hcell k (by rw [HN.out]; omega)
      rw [HF.out] at e1
      clear hcell
      cases g : inB (-2147483648) 2147483647 (f k)
      · have G := Lib.hid g
        clear g
        have hok : ok = false := by rw [← HO.out]; exact smps_no (k := k) (by rw [HF.out]; exact G.out)
        subst hok
        go_wp2_with (go_at_call 61; refine (l01Sample_any _ _).mono ?_; rw [G.out]; rintro e w' ⟨rfl, rfl⟩)
        go_ret
        exact ⟨rfl, rfl⟩
      · have G := Lib.hid g
        clear g
        go_wp2_with (go_at_call 61; refine (l01Sample_any _ _).mono ?_; rw [G.out]; rintro e w' ⟨rfl, rfl⟩)
        go_round
        case rel => exact ⟨k + 1, by omega, by go_num, fun j hj => by
          rcases Nat.lt_or_ge j k with h' | h'
          · exact HA.out j h'
          · obtain rfl : j = k := by omega
            exact G.out⟩
        case measure => simp [intOf]; omega
    · have hok : ok = true := by rw [← HO.out]; exact smps_yes (fun j hj => by rw [HF.out]; exact HA.out j (by rw [HN.out] at hj; omega))
      subst hok
      go_wp2
      go_ret
      exact ⟨rfl, rfl⟩

end Go.Proofs.YtplioelpmfeabaaDoor
