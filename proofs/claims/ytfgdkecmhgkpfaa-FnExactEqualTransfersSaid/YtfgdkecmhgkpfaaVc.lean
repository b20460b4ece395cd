/- Walks: equal lists; SameSignal. -/
import Derived.Test.YtfgdkecmhgkpfaaVd
namespace Go.Proofs.Ytfgdkecmhgkpfaa
open Go.RowKit
set_option linter.unusedVariables false
set_option linter.unusedSimpArgs false

theorem same_yes {xs ys : List Int} (hl : xs.length = ys.length) (h : ∀ k, k < xs.length → xs.getD k 0 = ys.getD k 0) : decide (xs = ys) = true := by
  rw [decide_eq_true_iff]
  exact (list_ext_getD hl.symm (fun m hm => (h m hm).symm)).symm
theorem same_no {xs ys : List Int} {k : Nat} (h : xs.getD k 0 ≠ ys.getD k 0) : decide (xs = ys) = false := by
  rw [decide_eq_false_iff_not]
  rintro rfl
  exact h rfl
theorem same_len {xs ys : List Int} (h : xs.length ≠ ys.length) : decide (xs = ys) = false := by
  rw [decide_eq_false_iff_not]
  rintro rfl
  exact h rfl

set_option maxHeartbeats 1000000 in
theorem same_any (A : Option Addr) (c : Nat) (xs : List Int) (A' : Option Addr) (c' : Nat) (ys : List Int) (w : World) (h : Arg w A c xs) (h' : Arg w A' c' ys) :
    Calls Try.prog 34 #[.slice A xs.length c, .slice A' ys.length c'] w fun e w' => e = .returned (.bool (decide (xs = ys))) ∧ ∃ m, w' = w.drewN m := by
  have HS := Lib.hid h.sl
  have HS' := Lib.hid h'.sl
  have hlen := h.len
  have hlen' := h'.len
  clear h h'
  by_cases hl : xs.length = ys.length
  · have YES : Hid ((∀ k, k < xs.length → xs.getD k 0 = ys.getD k 0) → decide (xs = ys) = true) := same_yes hl
    have NO : Hid (∀ k, xs.getD k 0 ≠ ys.getD k 0 → decide (xs = ys) = false) := fun k => same_no
    have C : Hid (∀ k, k < xs.length → ∃ b o b' o', A = some ⟨b, o, none⟩ ∧ A' = some ⟨b', o', none⟩ ∧ w.cell? ⟨b, o + k, none⟩ = some (.int .i64 (xs.getD k 0)) ∧ w.cell? ⟨b', o' + k, none⟩ = some (.int .i64 (ys.getD k 0))) := by
      intro k hk
      obtain ⟨b, o, h1, _, h2⟩ := HS.out (by omega)
      obtain ⟨b', o', h1', _, h2'⟩ := HS'.out (by omega)
      exact ⟨b, o, b', o', h1, h1', h2 k hk, h2' k (by omega)⟩
    clear HS HS'
    generalize decide (xs = ys) = r at *
    rw [← hl]
    clear hl hlen'
    obtain ⟨f, hf⟩ : ∃ f : Nat → Int, f = fun k => xs.getD k 0 := ⟨_, rfl⟩
    obtain ⟨g, hg⟩ : ∃ f : Nat → Int, f = fun k => ys.getD k 0 := ⟨_, rfl⟩
    simp only [← (congrFun hf _), ← (congrFun hg _)] at YES NO C
    clear hf hg
    generalize xs.length = n at *
    go_enter Try.func34, Try.ntmps34
    go_wp2
    go_loopw [14, 5, 6] (fun i _ _ wr => ∃ k m : Nat, k ≤ n ∧ i = .int .i64 k ∧ wr = w.drewN m ∧ ∀ j, j < k → f j = g j) (fun i _ _ _ => n - (intOf i).toNat)
    case atStart => exact ⟨0, 0, by omega, rfl, rfl, fun j hj => absurd hj (by omega)⟩
    case round =>
      obtain ⟨k, m, hk, rfl, rfl, hall⟩ := hrel
      have HA := Lib.hid hall
      clear hall
      by_cases hlt : k < n
      · obtain ⟨b, o, b', o', rfl, rfl, e1, e2⟩ := C.out k hlt
        by_cases he : f k = g k
        · have HE := Lib.hid he
          rw [he] at e1
          clear he
          obtain ⟨y, hy⟩ : ∃ y, g k = y := ⟨_, rfl⟩
          rw [hy] at e1 e2
          clear hy
          go_wp2
          try (go_quiet (fail); go_wp2)
          go_roundw
          case rel => exact ⟨k + 1, _, by omega, by go_num, rfl, fun j hj => by
            rcases Nat.lt_or_ge j k with h' | h'
            · exact HA.out j h'
            · obtain rfl : j = k := by omega
              exact HE.out⟩
          case measure => simp [intOf]; omega
        · obtain rfl : r = false := NO.out k he
          generalize g k = y at *
          generalize f k = x at *
          go_wp2
          try (go_quiet (fail); go_wp2)
          go_ret
          refine ⟨rfl, ?_⟩
          first | exact ⟨_, rfl⟩ | exact ⟨_, World.drewN_drewN ..⟩
      · obtain rfl : r = true := YES.out (fun j hj => HA.out j (by omega))
        go_wp2
        go_ret
        exact ⟨rfl, m, rfl⟩
  · rw [same_len hl]
    clear HS HS'
    generalize xs.length = n at *
    generalize ys.length = n' at *
    go_enter Try.func34, Try.ntmps34
    go_wp2
    go_ret
    exact ⟨rfl, 0, rfl⟩
set_option maxHeartbeats 1000000 in
theorem l00Same_any (A : Option Addr) (c : Nat) (xs : List Int) (A' : Option Addr) (c' : Nat) (ys : List Int) (w : World) (h : Arg w A c xs) (h' : Arg w A' c' ys) :
    Calls Try.prog 53 #[.slice A xs.length c, .slice A' ys.length c'] w fun e w' => e = .returned (.bool (decide (xs = ys))) ∧ ∃ m, w' = w.drewN m := by
  have HS := Lib.hid h.sl
  have HS' := Lib.hid h'.sl
  have hlen := h.len
  have hlen' := h'.len
  clear h h'
  by_cases hl : xs.length = ys.length
  · have YES : Hid ((∀ k, k < xs.length → xs.getD k 0 = ys.getD k 0) → decide (xs = ys) = true) := same_yes hl
    have NO : Hid (∀ k, xs.getD k 0 ≠ ys.getD k 0 → decide (xs = ys) = false) := fun k => same_no
    have C : Hid (∀ k, k < xs.length → ∃ b o b' o', A = some ⟨b, o, none⟩ ∧ A' = some ⟨b', o', none⟩ ∧ w.cell? ⟨b, o + k, none⟩ = some (.int .i64 (xs.getD k 0)) ∧ w.cell? ⟨b', o' + k, none⟩ = some (.int .i64 (ys.getD k 0))) := by
      intro k hk
      obtain ⟨b, o, h1, _, h2⟩ := HS.out (by omega)
      obtain ⟨b', o', h1', _, h2'⟩ := HS'.out (by omega)
      exact ⟨b, o, b', o', h1, h1', h2 k hk, h2' k (by omega)⟩
    clear HS HS'
    generalize decide (xs = ys) = r at *
    rw [← hl]
    clear hl hlen'
    obtain ⟨f, hf⟩ : ∃ f : Nat → Int, f = fun k => xs.getD k 0 := ⟨_, rfl⟩
    obtain ⟨g, hg⟩ : ∃ f : Nat → Int, f = fun k => ys.getD k 0 := ⟨_, rfl⟩
    simp only [← (congrFun hf _), ← (congrFun hg _)] at YES NO C
    clear hf hg
    generalize xs.length = n at *
    go_enter Try.func53, Try.ntmps53
    go_wp2
    go_loopw [5] (fun i wr => ∃ k m : Nat, k ≤ n ∧ i = .int .i64 k ∧ wr = w.drewN m ∧ ∀ j, j < k → f j = g j) (fun i _ => n - (intOf i).toNat)
    case atStart => exact ⟨0, 0, by omega, rfl, rfl, fun j hj => absurd hj (by omega)⟩
    case round =>
      obtain ⟨k, m, hk, rfl, rfl, hall⟩ := hrel
      have HA := Lib.hid hall
      clear hall
      by_cases hlt : k < n
      · obtain ⟨b, o, b', o', rfl, rfl, e1, e2⟩ := C.out k hlt
        by_cases he : f k = g k
        · have HE := Lib.hid he
          rw [he] at e1
          clear he
          obtain ⟨y, hy⟩ : ∃ y, g k = y := ⟨_, rfl⟩
          rw [hy] at e1 e2
          clear hy
          go_wp2
          try (go_quiet (fail); go_wp2)
          go_roundw
          case rel => exact ⟨k + 1, _, by omega, by go_num, rfl, fun j hj => by
            rcases Nat.lt_or_ge j k with h' | h'
            · exact HA.out j h'
            · obtain rfl : j = k := by omega
              exact HE.out⟩
          case measure => simp [intOf]; omega
        · obtain rfl : r = false := NO.out k he
          generalize g k = y at *
          generalize f k = x at *
          go_wp2
          try (go_quiet (fail); go_wp2)
          go_ret
          refine ⟨rfl, ?_⟩
          first | exact ⟨_, rfl⟩ | exact ⟨_, World.drewN_drewN ..⟩
      · obtain rfl : r = true := YES.out (fun j hj => HA.out j (by omega))
        go_wp2
        go_ret
        exact ⟨rfl, m, rfl⟩
  · rw [same_len hl]
    clear HS HS'
    generalize xs.length = n at *
    generalize ys.length = n' at *
    go_enter Try.func53, Try.ntmps53
    go_wp2
    go_ret
    exact ⟨rfl, 0, rfl⟩


end Go.Proofs.Ytfgdkecmhgkpfaa
