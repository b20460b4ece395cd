/- Walks over the laws' helpers for slices of int64: equal, marked, held, copied. -/
import Derived.Test.YtplioelpmfeabaaDoorRows
import Derived.Test.YtplioelpmfeabaaDoorMe
import Derived.WalkKit
import Derived.WalkSpells
import Derived.WalkLawsBesides
import Derived.Lib.Hide
import Derived.Deep.QuietTactic
import Derived.BigQuiet
namespace Go.Proofs.YtplioelpmfeabaaDoor
open Go.RowKit
set_option linter.unusedVariables false
set_option linter.unusedSimpArgs false

theorem infoI : (Tryd.prog.info? 2).map (fun i => (i.zero, i.size, i.bytes)) = some (some (.int .i64 0), 1, 8) := by kernel_rfl

/-- The numbers k, k + 1, .. -/
def Marked (k : Int) (zs : List Int) : Prop := ∀ j, j < zs.length → zs.getD j 0 = k + j

set_option maxHeartbeats 400000 in
theorem eqSame_any (A B : Option Addr) (c d : Nat) (xs : List Int) (w : World) (B1 B2 : Nat) (h1 : Sl w B1 A xs) (h2 : Sl w B2 B xs) (hl : xs.length ≤ 1099511627776) :
    Calls Tryd.prog 30 #[.slice A xs.length c, .slice B xs.length d] w fun e w' => e = .returned (.bool true) ∧ ∃ n, w' = w.drewN n := by
  rcases Nat.eq_zero_or_pos xs.length with h0 | hp
  · rw [h0]
    go_enter Tryd.func30, Tryd.ntmps30
    go_wp2
    go_loop [5] (fun i => i = .int .i64 0) (fun _ => 0)
    case atStart => rfl
    case round =>
      subst hrel
      go_wp2
      go_ret
      exact ⟨rfl, 0, rfl⟩
  · obtain ⟨b1, o1, rfl, l1, c1⟩ := h1 hp
    obtain ⟨b2, o2, rfl, l2, c2⟩ := h2 hp
    have C1 := Lib.hid c1
    have C2 := Lib.hid c2
    clear c1 c2 h1 h2
    generalize hn : xs.length = n at *
    have HN := Lib.hid hn
    clear hn
    go_enter Tryd.func30, Tryd.ntmps30
    go_wp2
    go_loopw [5] (fun i wr => ∃ k m : Nat, k ≤ n ∧ i = .int .i64 k ∧ wr = w.drewN m) (fun i _ => n - (intOf i).toNat)
    case atStart => exact ⟨0, 0, by omega, rfl, rfl⟩
    case round =>
      obtain ⟨k, m, hk, rfl, rfl⟩ := hrel
      by_cases hlt : k < n
      · have e1 := C1.out k hlt
        have e2 := C2.out k hlt
        generalize xs.getD k 0 = x at *
        go_wp2
        go_quiet (fail)
        go_wp2
        go_roundw
        case rel => exact ⟨k + 1, _, by omega, by go_num, rfl⟩
        case measure => simp [intOf]; omega
      · go_wp2
        go_ret
        exact ⟨rfl, m, rfl⟩

set_option maxHeartbeats 400000 in
theorem held_any (A : Option Addr) (c : Nat) (zs : List Int) (k : Int) (w : World) (B1 : Nat) (h1 : Sl w B1 A zs) (hm : Marked k zs) (hl : zs.length ≤ 1099511627776) (hk : 0 ≤ k) (hk' : k ≤ 1099511627776) :
    Calls Tryd.prog 34 #[.slice A zs.length c, .int .i64 k] w fun e w' => e = .returned (.int .i64 (k + zs.length)) ∧ w = w' := by
  rcases Nat.eq_zero_or_pos zs.length with h0 | hp
  · rw [h0]
    go_enter Tryd.func34, Tryd.ntmps34
    go_wp2
    go_loop [1, 5] (fun s i => i = .int .i64 0 ∧ s = .int .i64 k) (fun _ _ => 0)
    case atStart => exact ⟨rfl, rfl⟩
    case round =>
      obtain ⟨rfl, rfl⟩ := hrel
      go_wp2
      go_ret
      exact ⟨ret_int (by simp), rfl⟩
  · obtain ⟨b1, o1, rfl, l1, c1⟩ := h1 hp
    have C1 := Lib.hid c1
    have HM := Lib.hid hm
    clear c1 h1 hm
    generalize hn : zs.length = n at *
    have HN := Lib.hid hn
    clear hn
    go_enter Tryd.func34, Tryd.ntmps34
    go_wp2
    go_loop [1, 5] (fun s i => ∃ j : Nat, j ≤ n ∧ i = .int .i64 j ∧ s = .int .i64 (k + j)) (fun _ i => n - (intOf i).toNat)
    case atStart => exact ⟨0, by omega, rfl, by simp⟩
    case round =>
      obtain ⟨j, hj, rfl, rfl⟩ := hrel
      by_cases hlt : j < n
      · have e1 := C1.out j hlt
        rw [HM.out j (by rw [HN.out]; exact hlt)] at e1
        go_wp2
        go_round
        case rel => exact ⟨j + 1, by omega, by go_num, by go_num⟩
        case measure => simp [intOf]; omega
      · have hjn : j = n := by omega
        have HJ := Lib.hid hjn
        clear hjn
        go_wp2
        go_ret
        exact ⟨ret_int (by rw [HJ.out]), rfl⟩

theorem marked_step {k : Int} {zs : List Int} {j : Nat} (hj : j < zs.length) (h : ∀ m, m < j → zs.getD m 0 = k + m) : ∀ m, m < j + 1 → (zs.set j (k + j)).getD m 0 = k + m := by
  intro m hm
  rcases Nat.lt_or_ge m j with h1 | h1
  · rw [← h m h1]
    simp [List.getD_eq_getElem?_getD, show ¬ j = m by omega]
  · obtain rfl : m = j := by omega
    simp [List.getD_eq_getElem?_getD, hj]
theorem copied_step {xs zs : List Int} {j : Nat} (hj : j < zs.length) (h : ∀ m, m < j → zs.getD m 0 = xs.getD m 0) : ∀ m, m < j + 1 → (zs.set j (xs.getD j 0)).getD m 0 = xs.getD m 0 := by
  intro m hm
  rcases Nat.lt_or_ge m j with h1 | h1
  · rw [← h m h1]
    simp [List.getD_eq_getElem?_getD, show ¬ j = m by omega]
  · obtain rfl : m = j := by omega
    simp [List.getD_eq_getElem?_getD, hj]
theorem list_ext_getD {xs zs : List Int} (hl : zs.length = xs.length) (h : ∀ m, m < xs.length → zs.getD m 0 = xs.getD m 0) : zs = xs := by
  apply List.ext_getElem hl
  intro m h1 h2
  have := h m h2
  simpa [List.getD_eq_getElem?_getD, h1, h2] using this

theorem heldN_any (A : Option Addr) (c : Nat) (zs : List Int) (n : Nat) (hn : zs.length = n) (k : Int) (w : World) (B1 : Nat) (h1 : Sl w B1 A zs) (hm : Marked k zs) (hl : n ≤ 1099511627776) (hk : 0 ≤ k) (hk' : k ≤ 1099511627776) :
    Calls Tryd.prog 34 #[.slice A n c, .int .i64 k] w fun e w' => e = .returned (.int .i64 (k + n)) ∧ w = w' := by
  subst hn
  exact held_any A c zs k w B1 h1 hm hl hk hk'

/-- What markInt64S leaves. -/
def MarkP (lo hi : Nat) (A : Option Addr) (c : Nat) (n : Nat) (k : Int) (w : World) (e : Ending) (w' : World) : Prop :=
  e = .returned (.int .i64 (k + n)) ∧ ∃ zs, zs.length = n ∧ Marked k zs ∧ Own w' lo hi A c zs ∧ Only lo hi w w'

set_option maxHeartbeats 400000 in
theorem mark_any (A : Option Addr) (c : Nat) (xs : List Int) (k : Int) (w : World) (lo hi : Nat) (h : Own w lo hi A c xs) (hl : xs.length ≤ 1099511627776) (hk : 0 ≤ k) (hk' : k ≤ 1099511627776) :
    Calls Tryd.prog 33 #[.slice A xs.length c, .int .i64 k] w (MarkP lo hi A c xs.length k w) := by
  rcases Nat.eq_zero_or_pos xs.length with h0 | hp
  · have hnil : xs = [] := List.eq_nil_of_length_eq_zero h0
    subst hnil
    rw [h0]
    go_enter Tryd.func33, Tryd.ntmps33
    go_wp2
    go_loop [1, 5] (fun s i => i = .int .i64 0 ∧ s = .int .i64 k) (fun _ _ => 0)
    case atStart => exact ⟨rfl, rfl⟩
    case round =>
      obtain ⟨rfl, rfl⟩ := hrel
      go_wp2
      go_ret
      exact ⟨ret_int (by simp), [], rfl, fun j hj => absurd hj (by simp), h, Only.refl _ _ _⟩
  · obtain ⟨g, rfl, hlo, hhi⟩ := h.form hp
    have HO := Lib.hid h
    clear h
    generalize hn : xs.length = n at *
    have HN := Lib.hid hn
    clear hn
    go_enter Tryd.func33, Tryd.ntmps33
    go_wp2
    go_loopw [1, 5] (fun s i wr => ∃ (j : Nat) (zs : List Int), j ≤ n ∧ i = .int .i64 j ∧ s = .int .i64 (k + j) ∧ Own wr lo hi (some ⟨g, 0, none⟩) c zs ∧ zs.length = n ∧ (∀ m, m < j → zs.getD m 0 = k + m) ∧ Only lo hi w wr) (fun _ i _ => n - (intOf i).toNat)
    case atStart => exact ⟨0, xs, by omega, rfl, by simp, HO.out, HN.out, fun m hm => absurd hm (by omega), Only.refl _ _ _⟩
    case round =>
      obtain ⟨j, zs, hj, rfl, rfl, hown, hz, hm, honly⟩ := hrel
      have HZ := Lib.hid hz
      have HM := Lib.hid hm
      clear hz hm
      by_cases hlt : j < n
      · have e1 := hown.cell j (by rw [HZ.out]; exact hlt)
        have f1 := hown.notFrozen j
        generalize zs.getD j 0 = x at e1
        go_wp2
        go_roundw
        case rel => exact ⟨j + 1, zs.set j (k + j), by omega, by go_num, by go_num, hown.set j _, by rw [List.length_set]; exact HZ.out, marked_step (by rw [HZ.out]; exact hlt) HM.out, honly.setCell hlo hhi _⟩
        case measure => simp [intOf]; omega
      · have hjn : j = n := by omega
        have HJ := Lib.hid hjn
        clear hjn
        go_wp2
        go_ret
        exact ⟨ret_int (by rw [HJ.out]), zs, HZ.out, fun m hm => HM.out m (by rw [HJ.out, ← HZ.out]; exact hm), hown, honly⟩

/-- A fresh slice with the numbers xs. -/
def Fresh (xs : List Int) (w : World) (e : Ending) (w' : World) : Prop :=
  ∃ A c, e = .returned (.slice A xs.length c) ∧ Own w' w.heap.size w'.heap.size A c xs ∧ Below w.heap.size w w'

theorem made_own {w w1 : World} {n : Nat} (h : w1.ownsRow w.heap.size 2 1 (.slice (some ⟨w.heap.size, 0, none⟩) n n) n (madeCells (Value.cells (.int .i64 0)) (n * 1)).toList) :
    Own w1 w.heap.size (w.heap.size + 1) (some ⟨w.heap.size, 0, none⟩) n (List.replicate n 0) := by
  refine ⟨?_, fun a ha => by cases ha; simp⟩
  rw [List.length_replicate, ← vals_replicate, ← toList_madeCells_one]
  rw [Nat.mul_one] at h
  exact h
theorem own_size {w : World} {lo g : Nat} {c : Nat} {xs : List Int} (h : Own w lo (g + 1) (some ⟨g, 0, none⟩) c xs) : g + 1 ≤ w.heap.size :=
  (h.1.lt g (by simp [Value.ownBlock])).2
theorem fresh_mk {xs : List Int} {w w' : World} {n g c : Nat} (hn : xs.length = n) (h : Own w' w.heap.size (g + 1) (some ⟨g, 0, none⟩) c xs) (hb : Below w.heap.size w w') :
    Fresh xs w (.returned (.slice (some ⟨g, 0, none⟩) n c)) w' := by
  subst hn
  exact ⟨_, _, rfl, h.mono (Nat.le_refl _) (own_size h), hb⟩

set_option maxHeartbeats 400000 in
theorem toInts_any (A : Option Addr) (c : Nat) (xs : List Int) (w : World) (B1 : Nat) (h1 : Sl w B1 A xs) (hB : B1 ≤ w.heap.size) (hl : xs.length ≤ 1099511627776) :
    Calls Tryd.prog 28 #[.slice A xs.length c] w (Fresh xs w) := by
  obtain ⟨i0, hi, hz0, hz1, hz2⟩ := info_parts infoI
  have HS := Lib.hid h1
  clear h1
  generalize hn : xs.length = n at *
  have HN := Lib.hid hn
  clear hn
  go_enter Tryd.func28, Tryd.ntmps28
  go_wp2_with (at_make; refine wpList_make_full _ rfl (.tmp 6) (.tmp 6) 40 rfl w.heap.size 2 i0 (.int .i64 0) 1 Tryd.underlying40 hi hz0 hz1 .i64 .i64 _ _ n rfl rfl rfl rfl (by rw [hz2]; omega) (by unfold maxLen; omega) (Nat.le_refl _) ?_; intro w1 hown0 hgr)
  have hown1 : Own w1 w.heap.size (w.heap.size + 1) (some ⟨w.heap.size, 0, none⟩) n (List.replicate n 0) := made_own hown0
  have hbel := (Below.refl w.heap.size w).grown hgr (Nat.le_refl _) (fun k h => by cases h)
  clear hown0 hgr
  rcases Nat.eq_zero_or_pos n with h0 | hp
  · subst h0
    have hx : xs = [] := List.eq_nil_of_length_eq_zero HN.out
    subst hx
    go_loopw [4] (fun i wr => i = .int .i64 0 ∧ wr = w1) (fun _ _ => 0)
    case atStart => exact ⟨rfl, rfl⟩
    case round =>
      obtain ⟨rfl, rfl⟩ := hrel
      go_wp2
      go_ret
      exact ⟨_, _, rfl, hown1.mono (Nat.le_refl _) (own_size hown1), hbel⟩
  · obtain ⟨b1, o1, rfl, l1, c1⟩ := HS.out (by rw [HN.out]; exact hp)
    have C1 := Lib.hid c1
    clear c1
    go_loopw [4] (fun i wr => ∃ (j : Nat) (zs : List Int), j ≤ n ∧ i = .int .i64 j ∧ Own wr w.heap.size (w.heap.size + 1) (some ⟨w.heap.size, 0, none⟩) n zs ∧ zs.length = n ∧ (∀ m, m < j → zs.getD m 0 = xs.getD m 0) ∧ Below w.heap.size w wr) (fun i _ => n - (intOf i).toNat)
    case atStart => exact ⟨0, _, by omega, rfl, hown1, by simp, fun m hm => absurd hm (by omega), hbel⟩
    case round =>
      obtain ⟨j, zs, hj, rfl, hown, hz, hm, hbr⟩ := hrel
      have HZ := Lib.hid hz
      have HM := Lib.hid hm
      clear hz hm
      by_cases hlt : j < n
      · have e1 := hown.cell j (by rw [HZ.out]; exact hlt)
        have f1 := hown.notFrozen j
        have e2 : wr.cell? ⟨b1, o1 + j, none⟩ = some (.int .i64 (xs.getD j 0)) := (hbr.cell (p := ⟨b1, o1 + j, none⟩) (by exact Nat.lt_of_lt_of_le l1 hB)).trans (C1.out j (by rw [HN.out]; exact hlt))
        have hst := copied_step (xs := xs) (by rw [HZ.out]; exact hlt) HM.out
        have HST := Lib.hid hst
        clear hst
        generalize zs.getD j 0 = x at e1
        generalize xs.getD j 0 = y at *
        go_wp2
        go_roundw
        case rel => exact ⟨j + 1, zs.set j y, by omega, by go_num, hown.set j _, by rw [List.length_set]; exact HZ.out, HST.out, hbr.setCell (by simp) _⟩
        case measure => simp [intOf]; omega
      · have hjn : j = n := by omega
        have HJ := Lib.hid hjn
        clear hjn
        have hzx : zs = xs := list_ext_getD (HZ.out.trans HN.out.symm) (fun m hm => HM.out m (by rw [HJ.out, ← HN.out]; exact hm))
        have HZX := Lib.hid hzx
        clear hzx
        go_wp2
        go_ret
        exact fresh_mk (by rw [HN.out]) (HZX.out ▸ hown) hbr

end Go.Proofs.YtplioelpmfeabaaDoor
