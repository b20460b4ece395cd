/- Walks: FracText on both sides; the law. -/
import Derived.Test.YtplioelpmfeabaaDoorQo
namespace Go.Proofs.YtplioelpmfeabaaDoor
open Go.RowKit
set_option linter.unusedVariables false
set_option linter.unusedSimpArgs false

theorem l02Ok_is (n d : Int) (h : I64 n) (h' : I64 d) (b : Bool) (hb : okF n d = b) : ∀ w', Calls Tryd.prog 52 #[.agg #[.int .i64 n, .int .i64 d]] w' fun e w'' => e = .returned (.bool b) ∧ Below w'.heap.size w' w'' := fun w' => by
  subst hb
  exact l02Ok_any n d w' h h'
theorem isFrac_is (n d : Int) (h : I64 n) (h' : I64 d) (b : Bool) (hb : okF n d = b) : ∀ w', Calls Tryd.prog 54 #[.agg #[.int .i64 n, .int .i64 d]] w' fun e w'' => e = .returned (.bool b) ∧ Below w'.heap.size w' w'' := fun w' => by
  subst hb
  exact isFrac_any n d w' h h'

theorem specFracText_any (n d : Int) (w : World) (h : I64 n) (h' : I64 d) : Calls Tryd.prog 21 #[.agg #[.int .i64 n, .int .i64 d]] w (StrIs (fracT n d) w) := by
  cases hok : okF n d
  · have H := Lib.hid (fracT_no hok)
    have HK := Lib.hid (l02Ok_is n d h h' _ hok)
    clear hok
    generalize fracT n d = r at *
    go_enter Tryd.func21, Tryd.ntmps21
    go_wp2_with fail
    refine (HK.out _).mono ?_
    rintro e w1 ⟨rfl, hb1⟩
    go_wp2
    go_ret
    exact ⟨ret_str (by rw [← H.out]; rfl), nxt (by (repeat (first | exact Below.refl _ _ | assumption | refine Below.setCell ?_ (by (try simp) <;> omega) _ | refine Below.alloc ?_ (by (try simp) <;> omega) _ | refine below_drewN_ ?_ | refine Below.drew ?_))) hb1 (by simp)⟩
  · have H := Lib.hid (fracT_yes hok)
    have HT : Hid (∀ w', Calls Tryd.prog 53 #[.agg #[.int .i64 n, .int .i64 d]] w' (StrIs (frT n d) w')) := fun w' => l02Text_any n d w' h h'
    have HK := Lib.hid (l02Ok_is n d h h' _ hok)
    clear hok
    generalize fracT n d = r at *
    generalize frT n d = q at *
    go_enter Tryd.func21, Tryd.ntmps21
    go_wp2_with fail
    refine (HK.out _).mono ?_
    rintro e w1 ⟨rfl, hb1⟩
    obtain ⟨hc1, hf1⟩ := bcell hb1
    go_wp2_with fail
    refine (HT.out _).mono ?_
    rintro e w2 ⟨rfl, hb2⟩
    have hz1 := hb1.size
    simp at hz1
    have hb := nxt (nxt (show Below w.heap.size w _ by (repeat (first | exact Below.refl _ _ | assumption | refine Below.setCell ?_ (by (try simp) <;> omega) _ | refine Below.alloc ?_ (by (try simp) <;> omega) _ | refine below_drewN_ ?_ | refine Below.drew ?_))) hb1 (by simp)) hb2 (by omega)
    clear hb1 hb2 hc1 hf1
    go_wp2
    go_ret
    exact ⟨ret_str (by rw [H.out]), hb⟩

set_option maxHeartbeats 2000000 in
theorem implFracText_any (n d : Int) (w : World) (hn : I64 n) (hd : I64 d) (B : Nat) (hP : Lib.TabBelow Tryd.prog B w "internal/strconv.uint64pow10" .u64 Lib.pow10Tab) (hB : B ≤ w.heap.size) :
    Calls Tryd.prog 23 #[.agg #[.int .i64 n, .int .i64 d]] w (StrIs (fracT n d) w) := by
  cases hok : okF n d
  · have H := Lib.hid (fracT_no hok)
    have HK := Lib.hid (isFrac_is n d hn hd _ hok)
    clear hok hP
    generalize fracT n d = r at *
    go_enter Tryd.func23, Tryd.ntmps23
    go_wp2_with fail
    refine (HK.out _).mono ?_
    rintro e w1 ⟨rfl, hb1⟩
    go_wp2
    go_ret
    exact ⟨ret_str (by rw [← H.out]; rfl), nxt (by (repeat (first | exact Below.refl _ _ | assumption | refine Below.setCell ?_ (by (try simp) <;> omega) _ | refine Below.alloc ?_ (by (try simp) <;> omega) _ | refine below_drewN_ ?_ | refine Below.drew ?_))) hb1 (by simp)⟩
  · have H := Lib.hid (fracT_yes hok)
    have HK := Lib.hid (isFrac_is n d hn hd _ hok)
    have HD : Hid (∀ x w', I64 x → Below w.heap.size w w' → Calls Tryd.prog 13 #[.int .i64 x] w' (StrIs (Lib.itoa x) w')) := fun x w' hx hb => implDecimal_any x w' B hx (hP.on (hb.mono hB))
    have HNN := Lib.hid hn
    have HDD := Lib.hid hd
    clear hP
    by_cases h1 : d = 1
    · have HR := Lib.hid (frT_one (n := n) h1)
      have hd1 : (d == 1) = true := by rw [h1]; rfl
      clear hn hd h1 hok
      generalize fracT n d = r at *
      generalize frT n d = q at *
      go_enter Tryd.func23, Tryd.ntmps23
      go_wp2_with fail
      refine (HK.out _).mono ?_
      rintro e w1 ⟨rfl, hb1⟩
      obtain ⟨hc1, hf1⟩ := bcell hb1
      have hz1 := hb1.size
      simp at hz1
      have hb := nxt (show Below w.heap.size w _ by (repeat (first | exact Below.refl _ _ | assumption | refine Below.setCell ?_ (by (try simp) <;> omega) _ | refine Below.alloc ?_ (by (try simp) <;> omega) _ | refine below_drewN_ ?_ | refine Below.drew ?_))) hb1 (by simp)
      clear hb1
      go_wp2_with fail
      refine (HD.out n _ HNN.out hb).mono ?_
      rintro e w2 ⟨rfl, hb2⟩
      have hb' := hb.trans (hb2.mono hb.size)
      clear hb hb2 hc1 hf1
      go_wp2
      go_ret
      exact ⟨ret_str (by rw [HR.out, H.out]), hb'⟩
    · have HR := Lib.hid (frT_two (n := n) h1)
      have hd1 : (d == 1) = false := by rw [beq_eq_false_iff_ne]; exact h1
      have hq1 := itoa_small hn
      have hq2 := itoa_small hd
      clear hn hd h1 hok
      have hq3 : (str (Lib.itoa n) ++ str [47]).size ≤ 22 := by rw [ByteArray.size_append, str_size [47]]; simp; omega
      have DN : Hid (∀ w', Below w.heap.size w w' → Calls Tryd.prog 13 #[.int .i64 n] w' (StrIs (Lib.itoa n) w')) := fun w' hb => HD.out n w' HNN.out hb
      have DD : Hid (∀ w', Below w.heap.size w w' → Calls Tryd.prog 13 #[.int .i64 d] w' (StrIs (Lib.itoa d) w')) := fun w' hb => HD.out d w' HDD.out hb
      clear HD
      generalize fracT n d = r at *
      generalize frT n d = q at *
      unfold StrIs at DN DD
      generalize str (Lib.itoa n) = q1 at *
      generalize str (Lib.itoa d) = q2 at *
      have n1 : ¬ 9223372036854775807 < q1.size + 1 := by omega
      have n2 : ¬ 9223372036854775807 < (q1 ++ str [47]).size + q2.size := by omega
      have n3 : ¬ 9223372036854775807 < q1.size + 1 + q2.size := by omega
      unfold str at n2
      go_enter Tryd.func23, Tryd.ntmps23
      go_wp2_with fail
      refine (HK.out _).mono ?_
      rintro e w1 ⟨rfl, hb1⟩
      obtain ⟨hc1, hf1⟩ := bcell hb1
      have hz1 := hb1.size
      simp at hz1
      have hb0 := nxt (show Below w.heap.size w _ by (repeat (first | exact Below.refl _ _ | assumption | refine Below.setCell ?_ (by (try simp) <;> omega) _ | refine Below.alloc ?_ (by (try simp) <;> omega) _ | refine below_drewN_ ?_ | refine Below.drew ?_))) hb1 (by simp)
      have e0 : w1.cell? ⟨w.heap.size, 0, none⟩ = some (.int .i64 n) := by rw [hc1 _ _ (by simp)]; go_simp
      have e1 : w1.cell? ⟨w.heap.size, 1, none⟩ = some (.int .i64 d) := by rw [hc1 _ _ (by simp)]; go_simp
      have HZ : Hid (w.heap.size < w1.heap.size) := by show _ < _; omega
      have HB0 := Lib.hid hb0
      clear hb1 hc1 hf1 hb0
      go_wp2
      go_region_held3 (fun w' => Below w1.heap.size w1 w' ∧ w'.cell? ⟨w.heap.size, 0, none⟩ = some (.int .i64 n) ∧ w'.cell? ⟨w.heap.size, 1, none⟩ = some (.int .i64 d))
        ((first | assumption | (refine Hid.out ?_; assumption) | (exact HeldF.start e0 e1) | (exact HeldF.drew (HeldF.start e0 e1)) | (refine HeldF.drew ?_; assumption)))
        ((first | (go_at_call_of 13 (Value.int IntKind.i64 n); have hh : HeldF w1 w.heap.size n d _ := (by (first | assumption | exact HeldF.start e0 e1)); refine (DN.out _ (HB0.out.trans (hh.1.mono HB0.out.size))).mono ?_; rintro e w2 ⟨rfl, hbk⟩; have hS := Lib.hid (HeldF.call hh HZ.out hbk); clear hbk hh) | (go_at_call_of 13 (Value.int IntKind.i64 d); have hh : HeldF w1 w.heap.size n d _ := (by (first | assumption | exact HeldF.start e0 e1)); refine (DD.out _ (HB0.out.trans (hh.1.mono HB0.out.size))).mono ?_; rintro e w2 ⟨rfl, hbk⟩; have hS := Lib.hid (HeldF.call hh HZ.out hbk); clear hbk hh)))
      all_goals
        rename_i hHeld
        have hbl := HB0.out.trans (hHeld.1.mono HB0.out.size)
        clear hHeld
        go_wp2
        go_ret
        exact ⟨ret_str (by rw [← H.out]; exact HR.out), hbl⟩

theorem walk_FnExactFracText (n d : Int) (w : World) (h : I64 n) (h' : I64 d) (hP : Lib.TabBelow Tryd.prog w.heap.size w "internal/strconv.uint64pow10" .u64 Lib.pow10Tab) :
    Calls Tryd.prog 6 #[.agg #[.int .i64 n, .int .i64 d]] w fun e w' => e = .returned (.bool true) ∧ Below w.heap.size w w' := by
  have H1 : Hid (∀ w', Calls Tryd.prog 21 #[.agg #[.int .i64 n, .int .i64 d]] w' (StrIs (fracT n d) w')) := fun w' => specFracText_any n d w' h h'
  have H2 : Hid (∀ w', Below w.heap.size w w' → Calls Tryd.prog 23 #[.agg #[.int .i64 n, .int .i64 d]] w' (StrIs (fracT n d) w')) := fun w' hb => implFracText_any n d w' h h' w.heap.size (hP.on hb) hb.size
  clear h h' hP
  generalize fracT n d = r at *
  go_enter Tryd.func6, Tryd.ntmps6
  go_wp2_with fail
  refine (toFrac_any _ _ _).mono ?_
  rintro e w1 ⟨rfl, hb1⟩
  obtain ⟨hc1, hf1⟩ := bcell hb1
  have hz1 : w.heap.size < w1.heap.size := by have := hb1.size; simp at this; omega
  go_wp2_with fail
  refine (H1.out _).mono ?_
  rintro e w2 ⟨rfl, hb2⟩
  obtain ⟨hc2, hf2⟩ := bcell hb2
  have hz2 : w.heap.size < w2.heap.size := by have := hb2.size; omega
  go_wp2_with fail
  refine (toFrac_any _ _ _).mono ?_
  rintro e w3 ⟨rfl, hb3⟩
  have hz3 : w.heap.size < w3.heap.size := by have := hb3.size; omega
  have hb := nxt (nxt (nxt (show Below w.heap.size w _ by (repeat (first | exact Below.refl _ _ | assumption | refine Below.setCell ?_ (by (try simp) <;> omega) _ | refine Below.alloc ?_ (by (try simp) <;> omega) _ | refine below_drewN_ ?_ | refine Below.drew ?_))) hb1 (by simp)) hb2 (by omega)) hb3 (by omega)
  go_wp2_with fail
  refine (H2.out _ hb).mono ?_
  rintro e w4 ⟨rfl, hb4⟩
  have hb' := nxt hb hb4 (by omega)
  clear hb1 hb2 hb3 hb4 hb hc1 hf1 hc2 hf2
  generalize str r = q at *
  go_wp2
  go_ret
  exact ⟨rfl, hb'⟩

end Go.Proofs.YtplioelpmfeabaaDoor
