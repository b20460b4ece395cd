/- Walks and the law: names. -/
import Derived.Test.YtpmejklchelgeaaWa
import Derived.Test.YtpmejklchelgeaaMe
import Derived.Test.YtpmejklchelgeaaPe
namespace Go.Proofs.Ytpmejklchelgeaa
open Go.RowKit
set_option linter.unusedVariables false

/-- The byte at place k may stand there in a name. -/
def okC (k : Nat) (c : Int) : Prop := (97 ≤ c ∧ c ≤ 122) ∨ (48 ≤ c ∧ c ≤ 57 ∧ 0 < k)
/-- The rule of names. -/
def NameP (s : ByteArray) : Prop := 1 ≤ s.size ∧ s.size ≤ 10 ∧ ∀ k, k < s.size → okC k (byteAt s k)
theorem not_name {s : ByteArray} {k : Nat} (hk : k < s.size) (h : ¬ okC k (byteAt s k)) : ¬ NameP s := fun e => absurd (e.2.2 k hk) h
theorem okC_step {s : ByteArray} {k : Nat} (hall : ∀ j, j < k → okC j (byteAt s j)) (h : okC k (byteAt s k)) : ∀ j, j < k + 1 → okC j (byteAt s j) := by
  intro j hj
  rcases Nat.lt_or_ge j k with h' | h'
  · exact hall j h'
  · obtain rfl : j = k := by omega
    exact h

set_option maxHeartbeats 1000000 in
theorem implIsName_any (s : ByteArray) (w : World) (hs : s.size ≤ maxLen) :
    Calls Try.prog 26 #[.string s] w (BoolIs (NameP s) w) := by
  unfold maxLen at hs
  by_cases h1 : 1 ≤ s.size
  · by_cases h2 : s.size ≤ 10
    · go_enter Try.func26, Try.ntmps26
      go_wp2
      go_loop [3, 4, 5] (fun i _ _ => ∃ k : Nat, k ≤ s.size ∧ i = .int .i64 k ∧ ∀ j, j < k → okC j (byteAt s j)) (fun i _ _ => s.size - (intOf i).toNat)
      case atStart => exact ⟨0, by omega, rfl, fun j hj => absurd hj (by omega)⟩
      case round =>
        obtain ⟨k, hk, rfl, hall⟩ := hrel
        have HALL := Lib.hid hall
        clear hall
        by_cases hlt : k < s.size
        · have hb := byteAt_eq s k hlt
          obtain ⟨b1, b2⟩ := byteAt_lo s k
          cases hk0 : ((k : Int) == 0)
          · have hk1 : 0 < k := by simp at hk0; omega
            go_wp2
            all_goals first
              | (go_round
                 case rel => exact ⟨k + 1, by omega, by go_num, okC_step HALL.out (by unfold okC; simp only [Bool.not_eq_false', decide_eq_true_eq] at *; omega)⟩
                 case measure => simp [intOf]; omega)
              | (go_ret
                 exact BoolIs.no (not_name hlt (by unfold okC; omega)))
          · have hk1 : k ≤ 0 := by simp at hk0; omega
            go_wp2
            all_goals first
              | (go_round
                 case rel => exact ⟨k + 1, by omega, by go_num, okC_step HALL.out (by unfold okC; simp only [Bool.not_eq_false', decide_eq_true_eq] at *; omega)⟩
                 case measure => simp [intOf]; omega)
              | (go_ret
                 exact BoolIs.no (not_name hlt (by unfold okC; omega)))
        · have hks : k = s.size := by omega
          have H := Lib.hid hks
          clear hks
          go_wp2
          go_ret
          exact BoolIs.yes ⟨h1, h2, H.out ▸ HALL.out⟩
    · go_enter Try.func26, Try.ntmps26
      go_wp2
      go_ret
      exact BoolIs.no fun h => by have := h.2.1; omega
  · go_enter Try.func26, Try.ntmps26
    go_wp2
    go_ret
    exact BoolIs.no fun h => by have := h.1; omega
theorem str_full {s : ByteArray} (h : 1 ≤ s.size) : ¬ s.toList = [] ∧ s.toList.isEmpty = false := by
  have h1 : s.toList.length = s.size := by rw [ByteArray.toList_eq]; simp
  have h2 : ¬ s.toList = [] := fun e => by rw [e] at h1; simp at h1; omega
  exact ⟨h2, by simpa using h2⟩
theorem str_empty {s : ByteArray} (h : ¬ 1 ≤ s.size) : s.toList = [] ∧ s.toList.isEmpty = true := by
  have h1 : s.toList.length = s.size := by rw [ByteArray.toList_eq]; simp
  have h2 : s.toList = [] := List.eq_nil_of_length_eq_zero (by omega)
  exact ⟨h2, by simp [h2]⟩
theorem ranges (c : Int) : (97 ≤ c ∧ c ≤ 122) ∨ c < 48 ∨ (48 ≤ c ∧ c ≤ 57) ∨ (58 ≤ c ∧ c ≤ 96) ∨ 123 ≤ c := by omega
set_option maxHeartbeats 1000000 in
theorem specIsName_any (s : ByteArray) (w : World) (hs : s.size ≤ maxLen) :
    Calls Try.prog 25 #[.string s] w (BoolIs (NameP s) w) := by
  unfold maxLen at hs
  by_cases h1 : 1 ≤ s.size
  · obtain ⟨e1, e2⟩ := str_full h1
    by_cases h2 : s.size ≤ 10
    · have hb0 := byteAt_eq s 0 h1
      obtain ⟨z1, z2⟩ := byteAt_lo s 0
      rcases ranges (byteAt s 0) with ⟨r1, r2⟩ | r | ⟨r1, r2⟩ | ⟨r1, r2⟩ | r
      · have R : okC 0 (byteAt s 0) := .inl ⟨r1, r2⟩
        go_enter Try.func25, Try.ntmps25
        go_wp2
        clear hb0
        go_loop [3] (fun i => ∃ k : Nat, k ≤ s.size ∧ i = .int .i64 k ∧ ∀ j, j < k → okC j (byteAt s j)) (fun i => s.size - (intOf i).toNat)
        case atStart => exact ⟨0, by omega, rfl, fun j hj => absurd hj (by omega)⟩
        case round =>
          obtain ⟨k, hk, rfl, hall⟩ := hrel
          have HALL := Lib.hid hall
          clear hall
          by_cases hlt : k < s.size
          · have hb := byteAt_eq s k hlt
            obtain ⟨b1, b2⟩ := byteAt_lo s k
            have hk0 : (48 ≤ byteAt s k ∧ byteAt s k ≤ 57) → 0 < k := by
              intro h
              rcases Nat.eq_zero_or_pos k with h0 | h0
              · subst h0; omega
              · exact h0
            have HK := Lib.hid hk0
            clear hk0
            rcases ranges (byteAt s k) with ⟨t1, t2⟩ | t | ⟨t1, t2⟩ | ⟨t1, t2⟩ | t
            · go_wp2
              go_round
              case rel => exact ⟨k + 1, by omega, by go_num, okC_step HALL.out (.inl ⟨t1, t2⟩)⟩
              case measure => simp [intOf]; omega
            · go_wp2
              go_ret
              exact BoolIs.no (not_name hlt (by unfold okC; omega))
            · go_wp2
              go_round
              case rel => exact ⟨k + 1, by omega, by go_num, okC_step HALL.out (.inr ⟨t1, t2, HK.out ⟨t1, t2⟩⟩)⟩
              case measure => simp [intOf]; omega
            · have d1 : decide (byteAt s k ≤ 57) = false := by simp; omega
              go_wp2
              go_ret
              exact BoolIs.no (not_name hlt (by unfold okC; omega))
            · have d1 : decide (byteAt s k ≤ 57) = false := by simp; omega
              have d2 : decide (byteAt s k ≤ 122) = false := by simp; omega
              go_wp2
              go_ret
              exact BoolIs.no (not_name hlt (by unfold okC; omega))
          · have hks : k = s.size := by omega
            have H := Lib.hid hks
            clear hks
            go_wp2
            go_ret
            exact BoolIs.yes ⟨h1, h2, H.out ▸ HALL.out⟩
      case inr.inr.inr.inr =>
        have d2 : decide (byteAt s 0 ≤ 122) = false := by simp; omega
        go_enter Try.func25, Try.ntmps25
        go_wp2
        go_ret
        exact BoolIs.no (not_name h1 (by unfold okC; omega))
      all_goals
        go_enter Try.func25, Try.ntmps25
        go_wp2
        go_ret
        exact BoolIs.no (not_name h1 (by unfold okC; omega))
    · go_enter Try.func25, Try.ntmps25
      go_wp2
      go_ret
      exact BoolIs.no fun h => by have := h.2.1; omega
  · obtain ⟨e1, e2⟩ := str_empty h1
    go_enter Try.func25, Try.ntmps25
    go_wp2
    go_ret
    exact BoolIs.no fun h => by have := h.1; omega
theorem walk_FnExactIsName (s : ByteArray) (w : World) (hs : s.size ≤ maxLen) : Calls Try.prog 9 #[.string s] w fun e w' => e = .returned (.bool true) ∧ Below w.heap.size w w' := by
  have hs' := hs
  unfold maxLen at hs'
  by_cases hl : 1048576 < s.size
  · go_enter Try.func9, Try.ntmps9
    go_wp2
    go_ret
    exact ⟨rfl, Below.refl _ _⟩
  · go_enter Try.func9, Try.ntmps9
    go_wp2_with fail
    refine (specIsName_any _ _ hs).mono ?_
    rintro e w1 ⟨b1, rfl, hb1, rfl⟩
    have H1 := Lib.hid hb1
    clear hb1
    go_wp2_with fail
    refine (implIsName_any _ _ hs).mono ?_
    rintro e w1 ⟨b2, rfl, hb2, rfl⟩
    obtain rfl := bool_same H1.out hb2
    clear hb2
    go_wp2
    go_ret
    exact ⟨rfl, Below.refl _ _⟩
end Go.Proofs.Ytpmejklchelgeaa
