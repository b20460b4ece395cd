/- Walks: the text of a fraction, on both sides; the law FracText. -/
import Derived.Test.YtplioelpmfeabaaDoorQd
import Derived.Test.YtplioelpmfeabaaDoorWc
import Derived.Deep.RegionHeld3
namespace Go.Proofs.YtplioelpmfeabaaDoor
open Go.RowKit
set_option linter.unusedVariables false
set_option linter.unusedSimpArgs false

/-- The text of a fraction. -/
def frT (n d : Int) : List UInt8 := if d = 1 then Lib.itoa n else Lib.itoa n ++ 47 :: Lib.itoa d
def fracT (n d : Int) : List UInt8 := if okF n d = true then frT n d else []
theorem fracT_yes {n d : Int} (h : okF n d = true) : frT n d = fracT n d := (if_pos h).symm
theorem fracT_no {n d : Int} (h : okF n d = false) : [] = fracT n d := by unfold fracT; rw [h]; rfl
theorem frT_one {n d : Int} (h : d = 1) : Lib.itoa n = frT n d := (if_pos h).symm
theorem frT_two {n d : Int} (h : ¬ d = 1) : str (Lib.itoa n) ++ str [47] ++ str (Lib.itoa d) = str (frT n d) := by
  unfold frT
  rw [if_neg h, str_append, str_append]
  simp

/-- What stays while texts are made: the fraction's two cells. -/
def HeldF (w0 : World) (g : Nat) (n d : Int) (w : World) : Prop := Below w0.heap.size w0 w ∧ w.cell? ⟨g, 0, none⟩ = some (.int .i64 n) ∧ w.cell? ⟨g, 1, none⟩ = some (.int .i64 d)
theorem HeldF.start {w0 : World} {g : Nat} {n d : Int} (h : w0.cell? ⟨g, 0, none⟩ = some (.int .i64 n)) (h' : w0.cell? ⟨g, 1, none⟩ = some (.int .i64 d)) : HeldF w0 g n d w0 := ⟨Below.refl _ _, h, h'⟩
theorem HeldF.drew {w0 w : World} {g : Nat} {n d : Int} (h : HeldF w0 g n d w) : HeldF w0 g n d w.drew := ⟨h.1.drew, h.2⟩
theorem HeldF.call {w0 w w' : World} {g : Nat} {n d : Int} (h : HeldF w0 g n d w) (hg : g < w0.heap.size) (hb : Below w.heap.size w w') : HeldF w0 g n d w' := by
  have hz := h.1.size
  exact ⟨h.1.trans (hb.mono hz), (hb.cell (p := ⟨g, 0, none⟩) (Nat.lt_of_lt_of_le hg hz)).trans h.2.1, (hb.cell (p := ⟨g, 1, none⟩) (Nat.lt_of_lt_of_le hg hz)).trans h.2.2⟩
theorem itoa_small {n : Int} (h : I64 n) : (str (Lib.itoa n)).size ≤ 21 := by rw [str_size]; exact Lib.itoa_length_le n h.1 h.2

set_option maxHeartbeats 2000000 in
theorem l02Text_any (n d : Int) (w : World) (hn : I64 n) (hd : I64 d) : Calls Tryd.prog 53 #[.agg #[.int .i64 n, .int .i64 d]] w (StrIs (frT n d) w) := by
  have HN := Lib.hid hn
  have HD := Lib.hid hd
  by_cases h1 : d = 1
  · have HR := Lib.hid (frT_one (n := n) h1)
    have hd1 : (d == 1) = true := by rw [h1]; rfl
    clear hn hd h1
    generalize frT n d = r at *
    go_enter Tryd.func53, Tryd.ntmps53
    go_wp2_with fail
    refine (l01Dec_any n _ HN.out).mono ?_
    rintro e w1 ⟨rfl, hb1⟩
    go_wp2
    go_ret
    exact ⟨ret_str (by rw [HR.out]), nxt (by (repeat (first | exact Below.refl _ _ | assumption | refine Below.setCell ?_ (by (try simp) <;> omega) _ | refine Below.alloc ?_ (by (try simp) <;> omega) _ | refine below_drewN_ ?_ | refine Below.drew ?_))) hb1 (by simp)⟩
  · have HR := Lib.hid (frT_two (n := n) h1)
    have hd1 : (d == 1) = false := by rw [beq_eq_false_iff_ne]; exact h1
    have hq1 := itoa_small hn
    have hq2 := itoa_small hd
    have DN : Hid (∀ w', Calls Tryd.prog 44 #[.int .i64 n] w' (StrIs (Lib.itoa n) w')) := fun w' => l01Dec_any n w' HN.out
    have DD : Hid (∀ w', Calls Tryd.prog 44 #[.int .i64 d] w' (StrIs (Lib.itoa d) w')) := fun w' => l01Dec_any d w' HD.out
    clear hn hd h1
    have hq3 : (str (Lib.itoa n) ++ str [47]).size ≤ 22 := by rw [ByteArray.size_append, str_size [47]]; simp; omega
    generalize frT n d = r at *
    unfold StrIs at DN DD
    generalize str (Lib.itoa n) = q1 at *
    generalize str (Lib.itoa d) = q2 at *
    have n1 : ¬ 9223372036854775807 < q1.size + 1 := by omega
    have n2 : ¬ 9223372036854775807 < (q1 ++ str [47]).size + q2.size := by omega
    have n3 : ¬ 9223372036854775807 < q1.size + 1 + q2.size := by omega
    unfold str at n2
    go_enter Tryd.func53, Tryd.ntmps53
    go_wp2
    have e0 : (w.alloc (.cells #[.int .i64 n, .int .i64 d] 34)).cell? ⟨w.heap.size, 0, none⟩ = some (.int .i64 n) := by go_simp
    have e1 : (w.alloc (.cells #[.int .i64 n, .int .i64 d] 34)).cell? ⟨w.heap.size, 1, none⟩ = some (.int .i64 d) := by go_simp
    have hb0 : Below w.heap.size w (w.alloc (.cells #[.int .i64 n, .int .i64 d] 34)) := by (repeat (first | exact Below.refl _ _ | assumption | refine Below.setCell ?_ (by (try simp) <;> omega) _ | refine Below.alloc ?_ (by (try simp) <;> omega) _ | refine below_drewN_ ?_ | refine Below.drew ?_))
    have HZ : Hid (w.heap.size < (w.alloc (.cells #[.int .i64 n, .int .i64 d] 34)).heap.size) := by show _ < _; simp
    generalize w.alloc (.cells #[.int .i64 n, .int .i64 d] 34) = W0 at *
    go_region_held3 (fun w' => Below W0.heap.size W0 w' ∧ w'.cell? ⟨w.heap.size, 0, none⟩ = some (.int .i64 n) ∧ w'.cell? ⟨w.heap.size, 1, none⟩ = some (.int .i64 d))
      ((first | assumption | (refine Hid.out ?_; assumption) | (exact HeldF.start e0 e1) | (exact HeldF.drew (HeldF.start e0 e1)) | (refine HeldF.drew ?_; assumption)))
      ((first | (go_at_call_of 44 (Value.int IntKind.i64 n); refine (DN.out _).mono ?_; rintro e w1 ⟨rfl, hbk⟩; have hS := Lib.hid (HeldF.call (w0 := W0) (g := w.heap.size) (n := n) (d := d) (by (first | assumption | exact HeldF.start e0 e1)) HZ.out hbk); clear hbk) | (go_at_call_of 44 (Value.int IntKind.i64 d); refine (DD.out _).mono ?_; rintro e w1 ⟨rfl, hbk⟩; have hS := Lib.hid (HeldF.call (w0 := W0) (g := w.heap.size) (n := n) (d := d) (by (first | assumption | exact HeldF.start e0 e1)) HZ.out hbk); clear hbk)))
    all_goals
      rename_i hHeld
      have hbl := hb0.trans (hHeld.1.mono hb0.size)
      clear hHeld
      go_wp2
      go_ret
      exact ⟨ret_str HR.out, hbl⟩

end Go.Proofs.YtplioelpmfeabaaDoor
