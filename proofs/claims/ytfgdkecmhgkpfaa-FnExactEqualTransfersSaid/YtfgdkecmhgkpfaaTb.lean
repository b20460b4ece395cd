/- Walks: GainTransfer, LagTransfer. -/
import Derived.Test.YtfgdkecmhgkpfaaTa
namespace Go.Proofs.Ytfgdkecmhgkpfaa
open Go.RowKit
set_option linter.unusedVariables false
set_option linter.unusedSimpArgs false

/-- A transfer function of fresh lists, and a code. -/
def TIs (r : (List Int × List Int) × Int) (w : World) (e : Ending) (w' : World) : Prop :=
  ∃ xs ys code A c B d l1 h1 l2 h2, e = .returned (.tuple #[.agg #[.slice A xs.length c, .slice B ys.length d], .int .i64 code]) ∧ ((xs, ys), code) = r ∧ xs.length ≤ 1048576 ∧ ys.length ≤ 1048576 ∧
    Own w' l1 h1 A c xs ∧ Own w' l2 h2 B d ys ∧ w.heap.size ≤ l1 ∧ h1 ≤ w'.heap.size ∧ w.heap.size ≤ l2 ∧ h2 ≤ w'.heap.size ∧ (h1 ≤ l2 ∨ h2 ≤ l1) ∧ Below w.heap.size w w'
theorem TIs.nil_ {r : (List Int × List Int) × Int} {code : Int} {w w' : World} (h : (([], []), code) = r) (hb : Below w.heap.size w w') :
    TIs r w (.returned (.tuple #[.agg #[.slice none 0 0, .slice none 0 0], .int .i64 code])) w' :=
  ⟨[], [], _, none, 0, none, 0, w.heap.size, w.heap.size, w.heap.size, w.heap.size, rfl, h, by simp, by simp, Own.nil _ _ _, Own.nil _ _ _, Nat.le_refl _, hb.size, Nat.le_refl _, hb.size, .inl (Nat.le_refl _), hb⟩
theorem TIs.mk {r : (List Int × List Int) × Int} {ys zs : List Int} {code : Int} {w w' : World} {A B : Option Addr} {n m c d l1 h1 l2 h2 : Nat} (h : ((ys, zs), code) = r) (hn : n = ys.length) (hm : m = zs.length) (hl : ys.length ≤ 1048576) (hl' : zs.length ≤ 1048576)
    (hO : Own w' l1 h1 A c ys) (hO' : Own w' l2 h2 B d zs) (e1 : w.heap.size ≤ l1) (e2 : h1 ≤ w'.heap.size) (e3 : w.heap.size ≤ l2) (e4 : h2 ≤ w'.heap.size) (e5 : h1 ≤ l2 ∨ h2 ≤ l1) (hb : Below w.heap.size w w') :
    TIs r w (.returned (.tuple #[.agg #[.slice A n c, .slice B m d], .int .i64 code])) w' := by
  subst hn hm
  exact ⟨_, _, _, _, _, _, _, _, _, _, _, rfl, h, hl, hl', hO, hO', e1, e2, e3, e4, e5, hb⟩
theorem Own.oneAt (w : World) (g : Nat) (hg : w.heap.size = g) (x : Int) : Own (w.alloc (.cells #[.int .i64 x] 2)) g (g + 1) (some ⟨g, 0, none⟩) 1 [x] := by
  subst hg
  exact Own.lit w [x] (by unfold maxLen; simp)

/-- A result lies in a box of its own, above W0's blocks. -/
def GotT (W0 : World) (r : (List Int × List Int) × Int) (s t : Value) (wx : World) : Prop :=
  ∃ g ys zs code A c D d l1 h1 l2 h2, s = .pointer (some ⟨g, 0, none⟩) ∧ t = .int .i64 code ∧ ((ys, zs), code) = r ∧ ys.length ≤ 1048576 ∧ zs.length ≤ 1048576 ∧ Hid (Bx wx g A ys.length c D zs.length d) ∧ Own wx l1 h1 A c ys ∧ Own wx l2 h2 D d zs ∧
    W0.heap.size ≤ l1 ∧ h1 ≤ wx.heap.size ∧ W0.heap.size ≤ l2 ∧ h2 ≤ wx.heap.size ∧ (h1 ≤ l2 ∨ h2 ≤ l1) ∧ W0.heap.size ≤ g ∧ g < wx.heap.size ∧ (g < l1 ∨ h1 ≤ g) ∧ (g < l2 ∨ h2 ≤ g) ∧ Below W0.heap.size W0 wx
theorem GotT.mk {W0 wx : World} {r : (List Int × List Int) × Int} (g : Nat) {ys zs : List Int} {code : Int} {A : Option Addr} {c : Nat} {D : Option Addr} {d l1 h1 l2 h2 : Nat} (hr : ((ys, zs), code) = r) (hl : ys.length ≤ 1048576) (hl' : zs.length ≤ 1048576)
    (e0 : wx.cell? ⟨g, 0, none⟩ = some (.slice A ys.length c)) (e1 : wx.cell? ⟨g, 1, none⟩ = some (.slice D zs.length d)) (hO : Own wx l1 h1 A c ys) (hO' : Own wx l2 h2 D d zs)
    (hq : W0.heap.size ≤ l1 ∧ h1 ≤ wx.heap.size ∧ W0.heap.size ≤ l2 ∧ h2 ≤ wx.heap.size ∧ (h1 ≤ l2 ∨ h2 ≤ l1) ∧ W0.heap.size ≤ g ∧ (g < l1 ∨ h1 ≤ g) ∧ (g < l2 ∨ h2 ≤ g)) (hb : Below W0.heap.size W0 wx) :
    GotT W0 r (.pointer (some ⟨g, 0, none⟩)) (.int .i64 code) wx := by
  obtain ⟨q1, q2, q3, q4, q5, q6, q7, q8⟩ := hq
  exact ⟨g, ys, zs, code, A, c, D, d, l1, h1, l2, h2, rfl, rfl, hr, hl, hl', Lib.hid ⟨e0, e1⟩, hO, hO', q1, q2, q3, q4, q5, q6, World.block_lt_of_cell? wx _ e0, q7, q8, hb⟩

def gainOf (g : Int) : (List Int × List Int) × Int := if inB (-2147483648) 2147483647 g then (([g], [1]), 0) else (([], []), 2)
theorem gainOf_no {g : Int} (h : inB (-2147483648) 2147483647 g = false) : (([], []), 2) = gainOf g := by simp [gainOf, h]
theorem gainOf_yes {g : Int} (h : inB (-2147483648) 2147483647 g = true) : (([g], [1]), 0) = gainOf g := by simp [gainOf, h]
def lagOf (n : Int) : (List Int × List Int) × Int := if inB 0 64 n then ((List.replicate n.toNat 0 ++ [1], [1]), 0) else (([], []), 2)
theorem lagOf_no {n : Int} (h : inB 0 64 n = false) : (([], []), 2) = lagOf n := by simp [lagOf, h]
theorem lagOf_yes {n : Nat} (h : inB 0 64 (n : Int) = true) : ((List.replicate n 0 ++ [1], [1]), 0) = lagOf n := by simp [lagOf, h]


end Go.Proofs.Ytfgdkecmhgkpfaa
