/- Walks: GainTransfer, LagTransfer. -/
import Derived.Test.YtppfcmhbbjgkfaaTa
namespace Go.Proofs.Ytppfcmhbbjgkfaa
open Go.RowKit
set_option linter.unusedVariables false
set_option linter.unusedSimpArgs false

/-- A transfer function of fresh lists, and a code. -/
def TIs (r : (List Int × List Int) × Int) (w : World) (e : Ending) (w' : World) : Prop :=
  ∃ xs ys code A c B d l1 h1 l2 h2, e = .returned (.tuple #[.agg #[.slice A xs.length c, .slice B ys.length d], .int .i64 code]) ∧ ((xs, ys), code) = r ∧ xs.length ≤ 1048576 ∧ ys.length ≤ 1048576 ∧
    Own w' l1 h1 A c xs ∧ Own w' l2 h2 B d ys ∧ w.heap.size ≤ l1 ∧ h1 ≤ w'.heap.size ∧ w.heap.size ≤ l2 ∧ h2 ≤ w'.heap.size ∧ (h1 ≤ l2 ∨ h2 ≤ l1) ∧ Below w.heap.size w w'
theorem TIs.nil_ {r : (List Int × List Int) × Int} {code : Int} {w w' : World} (h : (([], []), code) = r) (hb : Below w.heap.size w w') :
    TIs r w (.returned (.tuple #[.agg #[.slice none 0 0, .slice none 0 0], .int .i64 code])) w' :=
  ⟨[], [], _, none, 0, none, 0, w.heap.size, w.heap.size, w.heap.size, w.heap.size, rfl, h, by simp, by simp, Own.nil _ _ _, Own.nil _ _ _, Nat.le_refl _, hb.size, Nat.le_refl _, hb.size, .inl (Nat.le_refl _), hb⟩
theorem TIs.mk {r : (List Int × List Int) × Int} {ys zs : List Int} {code : Int} {w w' : World} {A B : Option Addr} {n m c d l1 h1 l2 h2 : Nat} (h : ((ys, zs), code) = r) (hn : n = ys.length) (hm : m = zs.length) (hl : ys.length ≤ 1048576) (hl' : zs.length ≤ 1048576)
    (hO : Own w' l1 h1 A c ys) (hO' : Own w' l2 h2 B d zs) (e1 : w.heap.size ≤ l1) (e2 : h1 ≤ w'.heap.size) (e3 : w.heap.size ≤ l2) (e4 : h2 ≤ w'.heap.size) (e5 : h1 ≤ l2 ∨ h2 ≤ l1) (hb : Below w.heap.size w w') :
    TIs r w (.returned (.tuple #[.agg #[.slice A n c, .slice B m d], .int .i64 code])) w' := by
  subst hn hm
  exact ⟨_, _, _, _, _, _, _, _, _, _, _, rfl, h, hl, hl', hO, hO', e1, e2, e3, e4, e5, hb⟩
theorem Own.oneAt (w : World) (g : Nat) (hg : w.heap.size = g) (x : Int) : Own (w.alloc (.cells #[.int .i64 x] 2)) g (g + 1) (some ⟨g, 0, none⟩) 1 [x] := by
  subst hg
  exact Own.lit w [x] (by unfold maxLen; simp)

def gainOf (g : Int) : (List Int × List Int) × Int := if inB (-2147483648) 2147483647 g then (([g], [1]), 0) else (([], []), 2)
theorem gainOf_no {g : Int} (h : inB (-2147483648) 2147483647 g = false) : (([], []), 2) = gainOf g := by simp [gainOf, h]
theorem gainOf_yes {g : Int} (h : inB (-2147483648) 2147483647 g = true) : (([g], [1]), 0) = gainOf g := by simp [gainOf, h]
def lagOf (n : Int) : (List Int × List Int) × Int := if inB 0 64 n then ((List.replicate n.toNat 0 ++ [1], [1]), 0) else (([], []), 2)
theorem lagOf_no {n : Int} (h : inB 0 64 n = false) : (([], []), 2) = lagOf n := by simp [lagOf, h]
theorem lagOf_yes {n : Nat} (h : inB 0 64 (n : Int) = true) : ((List.replicate n 0 ++ [1], [1]), 0) = lagOf n := by simp [lagOf, h]

theorem specGainTransfer_any (g : Int) (w : World) (hg : I64 g) : Calls Try.prog 14 #[.int .i64 g] w (TIs (gainOf g) w) := by
  cases g1 : inB (-2147483648) 2147483647 g
  · have HR := Lib.hid (gainOf_no g1)
    have G1 := Lib.hid g1
    clear g1
    generalize gainOf g = r at *
    go_enter Try.func14, Try.ntmps14
    go_wp2_with fail
    refine (l01Sample_any _ _).mono ?_
    rw [G1.out]
    rintro e w' ⟨rfl, rfl⟩
    go_wp2
    refine bodyPost_ret (v := .tuple #[.agg #[.slice none 0 0, .slice none 0 0], .int .i64 2]) (by simp [results, Try.results14, go_sem]) rfl ?_
    exact TIs.nil_ HR.out (by (repeat (first | exact Below.refl _ _ | assumption | refine Below.setCell ?_ (by (try simp) <;> omega) _ | refine Below.alloc ?_ (by (try simp) <;> omega) _ | refine below_drewN_ ?_ | refine Below.drew ?_)))
  · have HR := Lib.hid (gainOf_yes g1)
    have G1 := Lib.hid g1
    clear g1
    generalize gainOf g = r at *
    go_enter Try.func14, Try.ntmps14
    go_wp2_with fail
    refine (l01Sample_any _ _).mono ?_
    rw [G1.out]
    rintro e w' ⟨rfl, rfl⟩
    go_wp2
    refine bodyPost_ret (v := .tuple #[.agg #[.slice (some ⟨w.heap.size + 1, 0, none⟩) 1 1, .slice (some ⟨w.heap.size + 1 + 1, 0, none⟩) 1 1], .int .i64 0]) (by simp [results, Try.results14, go_sem]) rfl ?_
    exact TIs.mk HR.out rfl rfl (by simp) (by simp) ((Own.oneAt _ _ (by simp) _).alloc _) (Own.oneAt _ _ (by simp) _) (by omega) (by simp) (by omega) (by simp) (.inl (Nat.le_refl _)) (by (repeat (first | exact Below.refl _ _ | assumption | refine Below.setCell ?_ (by (try simp) <;> omega) _ | refine Below.alloc ?_ (by (try simp) <;> omega) _ | refine below_drewN_ ?_ | refine Below.drew ?_)))
theorem implGainTransfer_any (g : Int) (w : World) (hg : I64 g) : Calls Try.prog 15 #[.int .i64 g] w (TIs (gainOf g) w) := by
  cases g1 : inB (-2147483648) 2147483647 g
  · have HR := Lib.hid (gainOf_no g1)
    have G1 := Lib.hid g1
    clear g1
    generalize gainOf g = r at *
    go_enter Try.func15, Try.ntmps15
    go_wp2_with fail
    refine (isSample_any _ _).mono ?_
    rw [G1.out]
    rintro e w' ⟨rfl, rfl⟩
    go_wp2
    refine bodyPost_ret (v := .tuple #[.agg #[.slice none 0 0, .slice none 0 0], .int .i64 2]) (by simp [results, Try.results15, go_sem]) rfl ?_
    exact TIs.nil_ HR.out (by (repeat (first | exact Below.refl _ _ | assumption | refine Below.setCell ?_ (by (try simp) <;> omega) _ | refine Below.alloc ?_ (by (try simp) <;> omega) _ | refine below_drewN_ ?_ | refine Below.drew ?_)))
  · have HR := Lib.hid (gainOf_yes g1)
    have G1 := Lib.hid g1
    clear g1
    generalize gainOf g = r at *
    go_enter Try.func15, Try.ntmps15
    go_wp2_with fail
    refine (isSample_any _ _).mono ?_
    rw [G1.out]
    rintro e w' ⟨rfl, rfl⟩
    go_wp2
    refine bodyPost_ret (v := .tuple #[.agg #[.slice (some ⟨w.heap.size + 1, 0, none⟩) 1 1, .slice (some ⟨w.heap.size + 1 + 1, 0, none⟩) 1 1], .int .i64 0]) (by simp [results, Try.results15, go_sem]) rfl ?_
    exact TIs.mk HR.out rfl rfl (by simp) (by simp) ((Own.oneAt _ _ (by simp) _).alloc _) (Own.oneAt _ _ (by simp) _) (by omega) (by simp) (by omega) (by simp) (.inl (Nat.le_refl _)) (by (repeat (first | exact Below.refl _ _ | assumption | refine Below.setCell ?_ (by (try simp) <;> omega) _ | refine Below.alloc ?_ (by (try simp) <;> omega) _ | refine below_drewN_ ?_ | refine Below.drew ?_)))
set_option maxHeartbeats 1000000 in
theorem specLagTransfer_any (n : Int) (w : World) (hg : I64 n) : Calls Try.prog 19 #[.int .i64 n] w (TIs (lagOf n) w) := by
  cases g1 : inB 0 64 n
  · have HR := Lib.hid (lagOf_no g1)
    have G1 := Lib.hid g1
    clear g1
    generalize lagOf n = r at *
    go_enter Try.func19, Try.ntmps19
    go_wp2_with (go_at_call 47; refine (l00In_is _ _ _ _ _ G1.out).mono ?_; rintro e w' ⟨rfl, rfl⟩)
    refine bodyPost_ret (v := .tuple #[.agg #[.slice none 0 0, .slice none 0 0], .int .i64 2]) (by simp [results, Try.results19, go_sem]) rfl ?_
    exact TIs.nil_ HR.out (by (repeat (first | exact Below.refl _ _ | assumption | refine Below.setCell ?_ (by (try simp) <;> omega) _ | refine Below.alloc ?_ (by (try simp) <;> omega) _ | refine below_drewN_ ?_ | refine Below.drew ?_)))
  · have G1 := Lib.hid g1
    obtain ⟨k, rfl, hk⟩ : ∃ k : Nat, n = k ∧ k ≤ 64 := by
      obtain ⟨h1, h2⟩ := inB_true.1 g1
      exact ⟨n.toNat, by omega, by omega⟩
    have HR := Lib.hid (lagOf_yes g1)
    clear g1 hg
    generalize lagOf k = r at *
    go_enter Try.func19, Try.ntmps19
    go_wp2_with (go_at_call 47; refine (l00In_is _ _ _ _ _ G1.out).mono ?_; rintro e w' ⟨rfl, rfl⟩)
    refine (l03Zeros_any k _ (by omega)).mono ?_
    rintro e w1 ⟨A1, c1, rfl, hO1, hb1⟩
    rw [List.length_replicate]
    have hz1 := hb1.size
    simp at hz1
    go_wp2_with (at_builtin; refine wl_app1 rfl (.tmp 9) (.tmp 10) rfl A1 c1 (List.replicate k 0) 1 k rfl hO1 ?c1 rfl ?c2 ?c3 ?_)
    case c1 => simp
    case c2 => omega
    case c3 => exact hb1.size
    intro A2 c2 w2 hO2 hb2
    have hb3 : Below (w.heap.size + 1) (w.alloc (.cells #[.slice none 0 0, .slice none 0 0] 24)) w2 := by
      have h : Below (w.heap.size + 1) (w.alloc (.cells #[.slice none 0 0, .slice none 0 0] 24)) w1 := by simpa using hb1
      exact h.trans hb2
    have hz2 := hb2.size
    have k0 : w2.cell? ⟨w.heap.size, 0, none⟩ = some (.slice none 0 0) := (hb3.cell (p := ⟨w.heap.size, 0, none⟩) (by simp)).trans (by go_simp)
    have k1 : w2.cell? ⟨w.heap.size, 1, none⟩ = some (.slice none 0 0) := (hb3.cell (p := ⟨w.heap.size, 1, none⟩) (by simp)).trans (by go_simp)
    have f0 : w2.frozen? ⟨w.heap.size, 0, none⟩ = false := (hb3.frozen (p := ⟨w.heap.size, 0, none⟩) (by simp)).trans (by go_simp)
    have f1 : w2.frozen? ⟨w.heap.size, 1, none⟩ = false := (hb3.frozen (p := ⟨w.heap.size, 1, none⟩) (by simp)).trans (by go_simp)
    have hlt : w.heap.size < w2.heap.size := by omega
    have hne : ¬ w.heap.size = w2.heap.size := by omega
    have hbb : Below w.heap.size w w2 := (show Below w.heap.size w (w.alloc (.cells #[.slice none 0 0, .slice none 0 0] 24)) by (repeat (first | exact Below.refl _ _ | assumption | refine Below.setCell ?_ (by (try simp) <;> omega) _ | refine Below.alloc ?_ (by (try simp) <;> omega) _ | refine below_drewN_ ?_ | refine Below.drew ?_))).trans (hb3.mono (by omega))
    clear hb1 hb2 hb3 hO1
    go_wp2
    refine bodyPost_ret (v := .tuple #[.agg #[.slice A2 (k + 1) c2, .slice (some ⟨w2.heap.size, 0, none⟩) 1 1], .int .i64 0]) (by simp [results, Try.results19, go_sem, k0, k1, f0, f1, hlt, hne]) rfl ?_
    exact TIs.mk HR.out (by simp) rfl (by simp; omega) (by simp) (((hO2.setFar (by (first | (simp; done) | omega | (simp; omega))) _).setFar (by (first | (simp; done) | omega | (simp; omega))) _).alloc _) (Own.oneAt _ w2.heap.size (by simp [World.setCell]) _) (by omega) (by simp [World.setCell]) (by omega) (by simp [World.setCell]) (.inl (Nat.le_refl _)) (((hbb.setCell (by simp) _).setCell (by simp) _).alloc (by simp [World.setCell]; omega) _)
set_option maxHeartbeats 1000000 in
theorem implLagTransfer_any (n : Int) (w : World) (hg : I64 n) : Calls Try.prog 20 #[.int .i64 n] w (TIs (lagOf n) w) := by
  cases g1 : inB 0 64 n
  · have HR := Lib.hid (lagOf_no g1)
    have G1 := Lib.hid g1
    clear g1
    generalize lagOf n = r at *
    go_enter Try.func20, Try.ntmps20
    go_wp2_with (go_at_call 49; refine (within_is _ _ _ _ _ G1.out).mono ?_; rintro e w' ⟨rfl, rfl⟩)
    refine bodyPost_ret (v := .tuple #[.agg #[.slice none 0 0, .slice none 0 0], .int .i64 2]) (by simp [results, Try.results20, go_sem]) rfl ?_
    exact TIs.nil_ HR.out (by (repeat (first | exact Below.refl _ _ | assumption | refine Below.setCell ?_ (by (try simp) <;> omega) _ | refine Below.alloc ?_ (by (try simp) <;> omega) _ | refine below_drewN_ ?_ | refine Below.drew ?_)))
  · have G1 := Lib.hid g1
    obtain ⟨k, rfl, hk⟩ : ∃ k : Nat, n = k ∧ k ≤ 64 := by
      obtain ⟨h1, h2⟩ := inB_true.1 g1
      exact ⟨n.toNat, by omega, by omega⟩
    have HR := Lib.hid (lagOf_yes g1)
    clear g1 hg
    generalize lagOf k = r at *
    go_enter Try.func20, Try.ntmps20
    go_wp2_with (go_at_call 49; refine (within_is _ _ _ _ _ G1.out).mono ?_; rintro e w' ⟨rfl, rfl⟩)
    refine (zeros_any k _ (by omega)).mono ?_
    rintro e w1 ⟨A1, c1, rfl, hO1, hb1⟩
    rw [List.length_replicate]
    have hz1 := hb1.size
    simp at hz1
    go_wp2_with (at_builtin; refine wl_app1 rfl (.tmp 9) (.tmp 10) rfl A1 c1 (List.replicate k 0) 1 k rfl hO1 ?c1 rfl ?c2 ?c3 ?_)
    case c1 => simp
    case c2 => omega
    case c3 => exact hb1.size
    intro A2 c2 w2 hO2 hb2
    have hb3 : Below (w.heap.size + 1) (w.alloc (.cells #[.slice none 0 0, .slice none 0 0] 24)) w2 := by
      have h : Below (w.heap.size + 1) (w.alloc (.cells #[.slice none 0 0, .slice none 0 0] 24)) w1 := by simpa using hb1
      exact h.trans hb2
    have hz2 := hb2.size
    have k0 : w2.cell? ⟨w.heap.size, 0, none⟩ = some (.slice none 0 0) := (hb3.cell (p := ⟨w.heap.size, 0, none⟩) (by simp)).trans (by go_simp)
    have k1 : w2.cell? ⟨w.heap.size, 1, none⟩ = some (.slice none 0 0) := (hb3.cell (p := ⟨w.heap.size, 1, none⟩) (by simp)).trans (by go_simp)
    have f0 : w2.frozen? ⟨w.heap.size, 0, none⟩ = false := (hb3.frozen (p := ⟨w.heap.size, 0, none⟩) (by simp)).trans (by go_simp)
    have f1 : w2.frozen? ⟨w.heap.size, 1, none⟩ = false := (hb3.frozen (p := ⟨w.heap.size, 1, none⟩) (by simp)).trans (by go_simp)
    have hlt : w.heap.size < w2.heap.size := by omega
    have hne : ¬ w.heap.size = w2.heap.size := by omega
    have hbb : Below w.heap.size w w2 := (show Below w.heap.size w (w.alloc (.cells #[.slice none 0 0, .slice none 0 0] 24)) by (repeat (first | exact Below.refl _ _ | assumption | refine Below.setCell ?_ (by (try simp) <;> omega) _ | refine Below.alloc ?_ (by (try simp) <;> omega) _ | refine below_drewN_ ?_ | refine Below.drew ?_))).trans (hb3.mono (by omega))
    clear hb1 hb2 hb3 hO1
    go_wp2
    refine bodyPost_ret (v := .tuple #[.agg #[.slice A2 (k + 1) c2, .slice (some ⟨w2.heap.size, 0, none⟩) 1 1], .int .i64 0]) (by simp [results, Try.results20, go_sem, k0, k1, f0, f1, hlt, hne]) rfl ?_
    exact TIs.mk HR.out (by simp) rfl (by simp; omega) (by simp) (((hO2.setFar (by (first | (simp; done) | omega | (simp; omega))) _).setFar (by (first | (simp; done) | omega | (simp; omega))) _).alloc _) (Own.oneAt _ w2.heap.size (by simp [World.setCell]) _) (by omega) (by simp [World.setCell]) (by omega) (by simp [World.setCell]) (.inl (Nat.le_refl _)) (((hbb.setCell (by simp) _).setCell (by simp) _).alloc (by simp [World.setCell]; omega) _)

end Go.Proofs.Ytppfcmhbbjgkfaa
