/- The text of a transfer function: the program's walk. -/
import Derived.Test.YtplioelpmfeabaaDoorUa
namespace Go.Proofs.YtplioelpmfeabaaDoor
open Go.RowKit
set_option linter.unusedVariables false
set_option linter.unusedSimpArgs false

/-- What the program writes is what the reference writes. -/
theorem transT_two {xs ys : List Int} (h : trB xs ys = true) : str [110, 117, 109, 32] ++ str (textN xs) ++ str [32, 100, 101, 110, 32] ++ str (textN ys) = str (transT xs ys) := by
  obtain ⟨h1, h2, -⟩ := trB_inv h
  have n1 : xs ≠ [] := fun e => by have := (pol_len h1).1; rw [e] at this; simp at this
  have n2 : ys ≠ [] := fun e => by have := (pol_len h2).1; rw [e] at this; simp at this
  rw [← transT_yes h, str_append, str_append, str_append]
  unfold trT
  rw [spaced_text n1, spaced_text n2]
  simp [numC, denC]

/-- What stays while texts are made: the transfer function's box. -/
def HeldT (w0 : World) (g : Nat) (A : Option Addr) (n c : Nat) (B : Option Addr) (m d : Nat) (w : World) : Prop := Below w0.heap.size w0 w ∧ w.cell? ⟨g, 0, none⟩ = some (.slice A n c) ∧ w.cell? ⟨g, 1, none⟩ = some (.slice B m d)
theorem HeldT.start {w0 : World} {g : Nat} {A : Option Addr} {n c : Nat} {B : Option Addr} {m d : Nat} (h : w0.cell? ⟨g, 0, none⟩ = some (.slice A n c)) (h' : w0.cell? ⟨g, 1, none⟩ = some (.slice B m d)) : HeldT w0 g A n c B m d w0 := ⟨Below.refl _ _, h, h'⟩
theorem HeldT.drew {w0 w : World} {g : Nat} {A : Option Addr} {n c : Nat} {B : Option Addr} {m d : Nat} (h : HeldT w0 g A n c B m d w) : HeldT w0 g A n c B m d w.drew := ⟨h.1.drew, h.2⟩
theorem HeldT.call {w0 w w' : World} {g : Nat} {A : Option Addr} {n c : Nat} {B : Option Addr} {m d : Nat} (h : HeldT w0 g A n c B m d w) (hg : g < w0.heap.size) (hb : Below w.heap.size w w') : HeldT w0 g A n c B m d w' := by
  have hz := h.1.size
  exact ⟨h.1.trans (hb.mono hz), (hb.cell (p := ⟨g, 0, none⟩) (Nat.lt_of_lt_of_le hg hz)).trans h.2.1, (hb.cell (p := ⟨g, 1, none⟩) (Nat.lt_of_lt_of_le hg hz)).trans h.2.2⟩

set_option maxHeartbeats 4000000 in
theorem implTransferText_any (A : Option Addr) (c : Nat) (xs : List Int) (B : Option Addr) (d : Nat) (ys : List Int) (w : World) (h : Arg w A c xs) (h2 : Arg w B d ys) (K : Nat) (hP : PowAt K w) (hK : K ≤ w.heap.size) :
    Calls Tryd.prog 38 #[.agg #[.slice A xs.length c, .slice B ys.length d]] w (StrIs (transT xs ys) w) := by
  have HA := Lib.hid (isTransfer_any A c xs B d ys (w.alloc (.cells #[.slice A xs.length c, .slice B ys.length d] 52)) (h.alloc _) (h2.alloc _))
  have hb0 : Below w.heap.size w (w.alloc (.cells #[.slice A xs.length c, .slice B ys.length d] 52)) := by (repeat (first | exact Below.refl _ _ | assumption | refine Below.setCell ?_ (by (try simp) <;> omega) _ | refine Below.alloc ?_ (by (try simp) <;> omega) _ | refine below_drewN_ ?_ | refine Below.drew ?_))
  have e0 : (w.alloc (.cells #[.slice A xs.length c, .slice B ys.length d] 52)).cell? ⟨w.heap.size, 0, none⟩ = some (.slice A xs.length c) := by go_simp
  have e1 : (w.alloc (.cells #[.slice A xs.length c, .slice B ys.length d] 52)).cell? ⟨w.heap.size, 1, none⟩ = some (.slice B ys.length d) := by go_simp
  have hz0 : w.heap.size < (w.alloc (.cells #[.slice A xs.length c, .slice B ys.length d] 52)).heap.size := by simp
  cases ht : trB xs ys
  · have HR := Lib.hid (transT_no ht)
    rw [ht] at HA
    clear h h2 ht hP e0 e1 hz0
    generalize transT xs ys = r at *
    generalize xs.length = n at *
    generalize ys.length = m at *
    go_enter Tryd.func38, Tryd.ntmps38
    go_wp2_with fail
    refine HA.out.mono ?_
    rintro e w' ⟨rfl, hb1⟩
    go_wp2
    go_ret
    exact ⟨ret_str (by rw [← HR.out]; rfl), nxt hb0 hb1 hb0.size⟩
  · have HR := Lib.hid (transT_two ht)
    obtain ⟨t1, t2, -⟩ := trB_inv ht
    have N1 : Hid (∀ w', Below w.heap.size w w' → Calls Tryd.prog 60 #[.slice A xs.length c] w' (StrIs (textN xs) w')) := fun w' hb => numbersText_any A c xs w' (h.below hb) K (hP.on (hb.mono hK)) (Nat.le_trans hK hb.size)
    have N2 : Hid (∀ w', Below w.heap.size w w' → Calls Tryd.prog 60 #[.slice B ys.length d] w' (StrIs (textN ys) w')) := fun w' hb => numbersText_any B d ys w' (h2.below hb) K (hP.on (hb.mono hK)) (Nat.le_trans hK hb.size)
    have hq1 : (str (textN xs)).size ≤ 1430 := by rw [str_size]; have := textN_le h.i64; have := (pol_len t1).2; omega
    have hq2 : (str (textN ys)).size ≤ 1430 := by rw [str_size]; have := textN_le h2.i64; have := (pol_len t2).2; omega
    rw [ht] at HA
    clear h h2 ht t1 t2 hP
    unfold StrIs at N1 N2
    generalize transT xs ys = r at *
    generalize str (textN xs) = q1 at *
    generalize str (textN ys) = q2 at *
    generalize xs.length = n at *
    generalize ys.length = m at *
    have s1 : (str [110, 117, 109, 32] ++ q1).size = 4 + q1.size := by rw [ByteArray.size_append, str_size]; rfl
    have s2 : (str [110, 117, 109, 32] ++ q1 ++ str [32, 100, 101, 110, 32]).size = 9 + q1.size := by rw [ByteArray.size_append, s1, str_size]; simp; omega
    have n1 : ¬ 9223372036854775807 < 4 + q1.size := by omega
    have n2 : ¬ 9223372036854775807 < 4 + q1.size + 5 := by omega
    have n3 : ¬ 9223372036854775807 < 4 + q1.size + 5 + q2.size := by omega
    have n4 : ¬ 9223372036854775807 < (str [110, 117, 109, 32] ++ q1).size + 5 := by omega
    have n5 : ¬ 9223372036854775807 < (str [110, 117, 109, 32] ++ q1 ++ str [32, 100, 101, 110, 32]).size + q2.size := by omega
    clear s1 s2
    unfold str at n4 n5
    go_enter Tryd.func38, Tryd.ntmps38
    go_wp2_with fail
    generalize w.alloc (.cells #[.slice A n c, .slice B m d] 52) = W0 at *
    refine HA.out.mono ?_
    rintro e w1 ⟨rfl, hb1⟩
    rw [← (bcell hb1).1 _ _ hz0] at e0 e1
    have HZ : Hid (w.heap.size < w1.heap.size) := by show _ < _; have := hb1.size; omega
    have HB0 := Lib.hid (nxt hb0 hb1 hb0.size)
    clear hb1 hb0 hz0
    go_wp2
    go_region_held3 (fun w' => Below w1.heap.size w1 w' ∧ w'.cell? ⟨w.heap.size, 0, none⟩ = some (.slice A n c) ∧ w'.cell? ⟨w.heap.size, 1, none⟩ = some (.slice B m d))
      ((first | assumption | (refine Hid.out ?_; assumption) | (exact HeldT.start e0 e1) | (exact HeldT.drew (HeldT.start e0 e1)) | (refine HeldT.drew ?_; assumption)))
      ((first | (go_at_call_of 60 (Value.slice A n c); have hh : HeldT w1 w.heap.size A n c B m d _ := (by (first | assumption | exact HeldT.start e0 e1)); refine (N1.out _ (HB0.out.trans (hh.1.mono HB0.out.size))).mono ?_; rintro e w2 ⟨rfl, hbk⟩; have hS := Lib.hid (HeldT.call hh HZ.out hbk); clear hbk hh) | (go_at_call_of 60 (Value.slice B m d); have hh : HeldT w1 w.heap.size A n c B m d _ := (by (first | assumption | exact HeldT.start e0 e1)); refine (N2.out _ (HB0.out.trans (hh.1.mono HB0.out.size))).mono ?_; rintro e w2 ⟨rfl, hbk⟩; have hS := Lib.hid (HeldT.call hh HZ.out hbk); clear hbk hh)))
    all_goals
      rename_i hHeld
      have hbl := HB0.out.trans (hHeld.1.mono HB0.out.size)
      clear hHeld
      go_wp2
      go_ret
      exact ⟨ret_str (by exact HR.out), hbl⟩

end Go.Proofs.YtplioelpmfeabaaDoor
