/- Walks: a signal; a polynomial; equal lists. -/
import Derived.Test.YtplioelpmfeabaaDoorVa
namespace Go.Proofs.YtplioelpmfeabaaDoor
open Go.RowKit
set_option linter.unusedVariables false
set_option linter.unusedSimpArgs false

def sigB (xs : List Int) : Bool := decide (xs.length ≤ 4000) && smps xs
theorem sigB_long {xs : List Int} (h : 4000 < xs.length) : sigB xs = false := by simp [sigB]; omega
theorem sigB_short {xs : List Int} (h : xs.length ≤ 4000) : sigB xs = smps xs := by simp [sigB, h]
theorem sigB_inv {xs : List Int} (h : sigB xs = true) : xs.length ≤ 4000 ∧ smps xs = true := by simpa [sigB] using h
def polB (xs : List Int) : Bool := decide (1 ≤ xs.length) && decide (xs.length ≤ 65) && smps xs && (decide (xs.length = 1) || decide (xs.getD (xs.length - 1) 0 ≠ 0))
theorem polB_off {xs : List Int} (h : xs.length < 1 ∨ 65 < xs.length) : polB xs = false := by
  unfold polB
  rcases h with h | h
  · rw [decide_eq_false (p := 1 ≤ xs.length) (by omega)]; simp
  · rw [show decide (xs.length ≤ 65) = false by simp; omega]; simp
theorem polB_bad {xs : List Int} (h : smps xs = false) : polB xs = false := by simp [polB, h]
theorem polB_one {xs : List Int} (h : smps xs = true) (h' : xs.length = 1) : polB xs = true := by simp [polB, h, h']
theorem polB_end {xs : List Int} (h : smps xs = true) (h1 : 1 ≤ xs.length) (h2 : xs.length ≤ 65) (h3 : xs.length ≠ 1) : polB xs = decide (xs.getD (xs.length - 1) 0 ≠ 0) := by
  unfold polB
  rw [h, show decide (1 ≤ xs.length) = true by simp; omega, show decide (xs.length ≤ 65) = true by simp; omega, show decide (xs.length = 1) = false by simp; omega]
  simp
theorem polB_inv {xs : List Int} (h : polB xs = true) : 1 ≤ xs.length ∧ xs.length ≤ 65 ∧ smps xs = true ∧ (xs.length = 1 ∨ xs.getD (xs.length - 1) 0 ≠ 0) := by
  simp [polB] at h
  obtain ⟨⟨⟨h1, h2⟩, h3⟩, h4⟩ := h
  exact ⟨by omega, h2, h3, by simpa using h4⟩

set_option maxHeartbeats 1000000 in
theorem l03Ok_any (A : Option Addr) (c : Nat) (xs : List Int) (w : World) (B : Nat) (h1 : Sl w B A xs) (hl : xs.length ≤ 1099511627776) :
    Calls Tryd.prog 57 #[.slice A xs.length c] w fun e w' => e = .returned (.bool (sigB xs)) ∧ w = w' := by
  rcases Nat.lt_or_ge 4000 xs.length with hbig | hsm
  · rw [sigB_long hbig]
    generalize xs.length = n at *
    clear h1
    go_enter Tryd.func57, Tryd.ntmps57
    go_wp2
    go_ret
    exact ⟨rfl, rfl⟩
  rw [sigB_short hsm]
  have HS := Lib.hid h1
  clear h1
  obtain ⟨f, hf⟩ : ∃ f : Nat → Int, ∀ k, xs.getD k 0 = f k := ⟨_, fun _ => rfl⟩
  have HF := Lib.hid hf
  clear hf
  generalize hn : xs.length = n at *
  have HN := Lib.hid hn
  clear hn
  generalize hs : smps xs = ok at *
  have HO := Lib.hid hs
  clear hs
  go_enter Tryd.func57, Tryd.ntmps57
  go_wp2
  go_loop [3] (fun i => ∃ k : Nat, k ≤ n ∧ i = .int .i64 k ∧ ∀ j, j < k → inB (-2147483648) 2147483647 (f j) = true) (fun i => n - (intOf i).toNat)
  case atStart => exact ⟨0, by omega, rfl, fun j hj => absurd hj (by omega)⟩
  case round =>
    obtain ⟨k, hk, rfl, hall⟩ := hrel
    have HA := Lib.hid hall
    clear hall
    by_cases hlt : k < n
    · obtain ⟨b, o, rfl, hb, hcell⟩ := HS.out (by rw [HN.out]; omega)
      have e1 := hcell k (by rw [HN.out]; omega)
      rw [HF.out] at e1
      clear hcell
      cases g : inB (-2147483648) 2147483647 (f k)
      · have G := Lib.hid g
        clear g
        have hok : ok = false := by rw [← HO.out]; exact smps_no (k := k) (by rw [HF.out]; exact G.out)
        subst hok
        go_wp2_with (go_at_call 61; refine (l01Sample_any _ _).mono ?_; rw [G.out]; rintro e w' ⟨rfl, rfl⟩)
        go_ret
        exact ⟨rfl, rfl⟩
      · have G := Lib.hid g
        clear g
        go_wp2_with (go_at_call 61; refine (l01Sample_any _ _).mono ?_; rw [G.out]; rintro e w' ⟨rfl, rfl⟩)
        go_round
        case rel => exact ⟨k + 1, by omega, by go_num, fun j hj => by
          rcases Nat.lt_or_ge j k with h' | h'
          · exact HA.out j h'
          · obtain rfl : j = k := by omega
            exact G.out⟩
        case measure => simp [intOf]; omega
    · have hok : ok = true := by rw [← HO.out]; exact smps_yes (fun j hj => by rw [HF.out]; exact HA.out j (by rw [HN.out] at hj; omega))
      subst hok
      go_wp2
      go_ret
      exact ⟨rfl, rfl⟩
theorem isSignal_any (A : Option Addr) (c : Nat) (xs : List Int) (w : World) (B : Nat) (h1 : Sl w B A xs) (hl : xs.length ≤ 1099511627776) :
    Calls Tryd.prog 59 #[.slice A xs.length c] w fun e w' => e = .returned (.bool (sigB xs)) ∧ w = w' := by
  rcases Nat.lt_or_ge 4000 xs.length with hbig | hsm
  · rw [sigB_long hbig]
    generalize xs.length = n at *
    clear h1
    go_enter Tryd.func59, Tryd.ntmps59
    go_wp2
    go_ret
    exact ⟨rfl, rfl⟩
  rw [sigB_short hsm]
  have HS := Lib.hid h1
  clear h1
  have HA := Lib.hid (areSamples_any A c xs w B HS.out hl)
  generalize xs.length = n at *
  generalize smps xs = ok at *
  clear HS
  go_enter Tryd.func59, Tryd.ntmps59
  go_wp2_with (go_at_call 80; refine (HA.out).mono ?_; rintro e w' ⟨rfl, rfl⟩)
  go_ret
  exact ⟨rfl, rfl⟩
set_option maxHeartbeats 1000000 in
theorem l04Ok_any (A : Option Addr) (c : Nat) (xs : List Int) (w : World) (B : Nat) (h1 : Sl w B A xs) (hl : xs.length ≤ 1099511627776) :
    Calls Tryd.prog 82 #[.slice A xs.length c] w fun e w' => e = .returned (.bool (polB xs)) ∧ w = w' := by
  have HA := Lib.hid (l04Samples_any A c xs w B h1 hl)
  have HS := Lib.hid h1
  clear h1
  by_cases hb : xs.length < 1 ∨ 65 < xs.length
  · have HB := Lib.hid (polB_off hb)
    generalize polB xs = ok at *
    generalize smps xs = oks at *
    generalize xs.length = n at *
    clear HS
    obtain rfl := HB.out
    have G : Hid (inB 1 65 (n : Int) = false) := inB_false.2 (by omega)
    rcases hb with hb | hb
    all_goals
      go_enter Tryd.func82, Tryd.ntmps82
      go_wp2_with (go_at_call 73; refine (l00In_is _ _ _ _ _ G.out).mono ?_; rintro e w' ⟨rfl, rfl⟩)
      go_ret
      exact ⟨rfl, rfl⟩
  have h1 : 1 ≤ xs.length := by omega
  have h2 : xs.length ≤ 65 := by omega
  clear hb
  obtain ⟨b, o, rfl, hb, hcell⟩ := HS.out (by omega)
  have e1 := hcell (xs.length - 1) (by omega)
  clear hcell
  have G : Hid (inB 1 65 (xs.length : Int) = true) := inB_mk (by omega) (by omega)
  cases hs : smps xs
  · have HB := Lib.hid (polB_bad hs)
    rw [hs] at HA
    generalize polB xs = ok at *
    generalize xs.getD (xs.length - 1) 0 = z at *
    clear hs HS
    generalize xs.length = n at *
    obtain rfl := HB.out
    go_enter Tryd.func82, Tryd.ntmps82
    go_wp2_with (first | (go_at_call 102; refine (HA.out).mono ?_; rintro e w' ⟨rfl, rfl⟩) | (go_at_call 73; refine (l00In_is _ _ _ _ _ G.out).mono ?_; rintro e w' ⟨rfl, rfl⟩))
    go_ret
    exact ⟨rfl, rfl⟩
  · rw [hs] at HA
    by_cases hone : xs.length = 1
    · have HB := Lib.hid (polB_one hs hone)
      generalize polB xs = ok at *
      generalize xs.getD (xs.length - 1) 0 = z at *
      clear hs HS
      rw [hone] at HA G e1
      rw [hone]
      obtain rfl := HB.out
      go_enter Tryd.func82, Tryd.ntmps82
      go_wp2_with (first | (go_at_call 102; refine (HA.out).mono ?_; rintro e w' ⟨rfl, rfl⟩) | (go_at_call 73; refine (l00In_is _ _ _ _ _ G.out).mono ?_; rintro e w' ⟨rfl, rfl⟩))
      go_ret
      exact ⟨rfl, rfl⟩
    · have HB := Lib.hid (polB_end hs h1 h2 hone)
      generalize polB xs = ok at *
      generalize xs.getD (xs.length - 1) 0 = z at *
      clear hs HS
      generalize xs.length = n at *
      obtain rfl := HB.out
      go_enter Tryd.func82, Tryd.ntmps82
      go_wp2_with (first | (go_at_call 102; refine (HA.out).mono ?_; rintro e w' ⟨rfl, rfl⟩) | (go_at_call 73; refine (l00In_is _ _ _ _ _ G.out).mono ?_; rintro e w' ⟨rfl, rfl⟩))
      go_ret
      have hn1 : ((n : Int) == 1) = false := by simp; omega
      exact ⟨ret_bool (by rw [hn1]; by_cases hz : z = 0 <;> simp [hz]), rfl⟩
set_option maxHeartbeats 1000000 in
theorem isPoly_any (A : Option Addr) (c : Nat) (xs : List Int) (w : World) (B : Nat) (h1 : Sl w B A xs) (hl : xs.length ≤ 1099511627776) :
    Calls Tryd.prog 103 #[.slice A xs.length c] w fun e w' => e = .returned (.bool (polB xs)) ∧ w = w' := by
  have HA := Lib.hid (areSamples_any A c xs w B h1 hl)
  have HS := Lib.hid h1
  clear h1
  by_cases hb : xs.length < 1 ∨ 65 < xs.length
  · have HB := Lib.hid (polB_off hb)
    generalize polB xs = ok at *
    generalize smps xs = oks at *
    generalize xs.length = n at *
    clear HS
    obtain rfl := HB.out
    have G : Hid (inB 1 65 (n : Int) = false) := inB_false.2 (by omega)
    rcases hb with hb | hb
    all_goals
      go_enter Tryd.func103, Tryd.ntmps103
      go_wp2_with (go_at_call 73; refine (l00In_is _ _ _ _ _ G.out).mono ?_; rintro e w' ⟨rfl, rfl⟩)
      go_ret
      exact ⟨rfl, rfl⟩
  have h1 : 1 ≤ xs.length := by omega
  have h2 : xs.length ≤ 65 := by omega
  clear hb
  obtain ⟨b, o, rfl, hb, hcell⟩ := HS.out (by omega)
  have e1 := hcell (xs.length - 1) (by omega)
  clear hcell
  have G : Hid (inB 1 65 (xs.length : Int) = true) := inB_mk (by omega) (by omega)
  cases hs : smps xs
  · have HB := Lib.hid (polB_bad hs)
    rw [hs] at HA
    generalize polB xs = ok at *
    generalize xs.getD (xs.length - 1) 0 = z at *
    clear hs HS
    generalize xs.length = n at *
    obtain rfl := HB.out
    go_enter Tryd.func103, Tryd.ntmps103
    go_wp2_with (first | (go_at_call 80; refine (HA.out).mono ?_; rintro e w' ⟨rfl, rfl⟩) | (go_at_call 73; refine (l00In_is _ _ _ _ _ G.out).mono ?_; rintro e w' ⟨rfl, rfl⟩))
    go_ret
    exact ⟨rfl, rfl⟩
  · rw [hs] at HA
    by_cases hone : xs.length = 1
    · have HB := Lib.hid (polB_one hs hone)
      generalize polB xs = ok at *
      generalize xs.getD (xs.length - 1) 0 = z at *
      clear hs HS
      rw [hone] at HA G e1
      rw [hone]
      obtain rfl := HB.out
      go_enter Tryd.func103, Tryd.ntmps103
      go_wp2_with (first | (go_at_call 80; refine (HA.out).mono ?_; rintro e w' ⟨rfl, rfl⟩) | (go_at_call 73; refine (l00In_is _ _ _ _ _ G.out).mono ?_; rintro e w' ⟨rfl, rfl⟩))
      go_ret
      exact ⟨rfl, rfl⟩
    · have HB := Lib.hid (polB_end hs h1 h2 hone)
      generalize polB xs = ok at *
      generalize xs.getD (xs.length - 1) 0 = z at *
      clear hs HS
      generalize xs.length = n at *
      obtain rfl := HB.out
      go_enter Tryd.func103, Tryd.ntmps103
      go_wp2_with (first | (go_at_call 80; refine (HA.out).mono ?_; rintro e w' ⟨rfl, rfl⟩) | (go_at_call 73; refine (l00In_is _ _ _ _ _ G.out).mono ?_; rintro e w' ⟨rfl, rfl⟩))
      go_ret
      have hn1 : ((n : Int) == 1) = false := by simp; omega
      exact ⟨ret_bool (by rw [hn1]; by_cases hz : z = 0 <;> simp [hz]), rfl⟩

end Go.Proofs.YtplioelpmfeabaaDoor
