/- Walks: sums of signals. -/
import Derived.Test.YtfgdkecmhgkpfaaVj
namespace Go.Proofs.Ytfgdkecmhgkpfaa
open Go.RowKit
set_option linter.unusedVariables false
set_option linter.unusedSimpArgs false

theorem imax_nat (n m : Nat) : imax (n : Int) (m : Int) = ((max n m : Nat) : Int) := by unfold imax; split <;> omega
theorem max_nat (n m : Nat) : (if (n : Int) < (m : Int) then (m : Int) else (n : Int)) = ((max n m : Nat) : Int) := by split <;> omega
theorem l00MaxN_any (a b : Int) (n m M : Nat) (hM : M = max n m) (ha : a = n) (hb : b = m) (w : World) : Calls Try.prog 69 #[.int .i64 a, .int .i64 b] w (NumIs M w) := by
  subst ha hb hM
  refine (l00Max_any _ _ w).mono ?_
  rintro e w' ⟨rfl, rfl⟩
  exact ⟨by rw [imax_nat], rfl⟩
set_option maxHeartbeats 1000000 in
theorem addTimes_any (A : Option Addr) (c : Nat) (xs : List Int) (A2 : Option Addr) (c2 : Nat) (ys : List Int) (g : Int) (w : World) (h : Arg w A c xs) (h2 : Arg w A2 c2 ys) (s : Smp xs) (s2 : Smp ys) (g1 : -2147483648 ≤ g) (g2 : g ≤ 2147483647) :
    Calls Try.prog 51 #[.slice A xs.length c, .int .i64 g, .slice A2 ys.length c2] w (Fresh (addT xs g ys) w) := by
  have AT : Hid (∀ wr, Below w.heap.size w wr → ∀ (i : Int) (k : Nat), i = k → k ≤ 1099511627776 → Calls Try.prog 63 #[.slice A xs.length c, .int .i64 i] wr (NumIs (xs.getD k 0) wr)) :=
    fun wr hb i k => at_any A c xs wr (h.below hb) i k
  have AT2 : Hid (∀ wr, Below w.heap.size w wr → ∀ (i : Int) (k : Nat), i = k → k ≤ 1099511627776 → Calls Try.prog 63 #[.slice A2 ys.length c2, .int .i64 i] wr (NumIs (ys.getD k 0) wr)) :=
    fun wr hb i k => at_any A2 c2 ys wr (h2.below hb) i k
  have hl := h.len
  have hl2 := h2.len
  clear h h2
  have S1 := Lib.hid s
  have S2 := Lib.hid s2
  clear s s2
  unfold Smp at S1 S2
  have HT : Hid (tab (max xs.length ys.length) (fun k => wrap32 (xs.getD k 0 + g * ys.getD k 0)) = addT xs g ys) := rfl
  have HM : ∃ M, M = max xs.length ys.length := ⟨_, rfl⟩
  obtain ⟨M, hM⟩ := HM
  rw [← hM] at HT
  have HMX := Lib.hid hM
  have hMl : M ≤ 1048576 := by omega
  clear hM
  obtain ⟨f, hf⟩ : ∃ f : Nat → Int, f = fun k => xs.getD k 0 := ⟨_, rfl⟩
  obtain ⟨f2, hf2⟩ : ∃ f : Nat → Int, f = fun k => ys.getD k 0 := ⟨_, rfl⟩
  simp only [← hf, ← congrFun hf _, ← hf2, ← congrFun hf2 _] at AT AT2 HT S1 S2
  clear hf hf2
  generalize addT xs g ys = r at *
  generalize xs.length = n at *
  generalize ys.length = n2 at *
  go_enter Try.func51, Try.ntmps51
  go_wp2_with fail
  refine (size_any _ _ _ _).mono ?_
  rintro e w1 ⟨rfl, rfl⟩
  go_wp2_with fail
  refine (size_any _ _ _ _).mono ?_
  rintro e w1 ⟨rfl, rfl⟩
  go_wp2_with fail
  all_goals
    refine (zerosN_any _ M (by rw [HMX.out]; omega) _ (by omega)).mono ?_
    rintro e w1 ⟨A1, c1, rfl, hO1, hb1⟩
    have hO2 := Lib.hid hO1
    clear hO1
    go_wp2
    go_loopw [8, 17] (fun _ i wr => ∃ (j : Nat), j ≤ M ∧ i = .int .i64 j ∧ Own wr w.heap.size w1.heap.size A1 c1 (tab M (part (fun k => wrap32 (f k + g * f2 k)) j)) ∧ Below w.heap.size w wr ∧ w1.heap.size ≤ wr.heap.size) (fun _ i _ => M - (intOf i).toNat)
    case atStart => exact ⟨0, by omega, rfl, by rw [← part_zero]; exact hO2.out, hb1, Nat.le_refl _⟩
    case round =>
      obtain ⟨j, hj, rfl, hown, hbr, hsz⟩ := hrel
      by_cases hlt : j < M
      · obtain ⟨b, rfl, hlo, hhi⟩ := hown.form (by rw [tab_length]; omega)
        have e1 := hown.cell j (by rw [tab_length]; exact hlt)
        have f1 := hown.notFrozen j
        generalize (tab M (part (fun k => wrap32 (f k + g * f2 k)) j)).getD j 0 = y at e1
        obtain ⟨p1, p2⟩ := S1.out j
        obtain ⟨q1, q2⟩ := S2.out j
        obtain ⟨r1, r2⟩ := smp_mul g1 g2 q1 q2
        go_wp2_with fail
        refine (AT.out _ hbr _ j rfl (by omega)).mono ?_
        rintro e w' ⟨rfl, rfl⟩
        go_wp2_with fail
        refine (AT2.out _ hbr _ j rfl (by omega)).mono ?_
        rintro e w' ⟨rfl, rfl⟩
        go_wp2_with fail
        refine (implWrap_any _ _).mono ?_
        rintro e w' ⟨rfl, rfl⟩
        generalize hv : wrap32 (f j + g * f2 j) = v
        have HV := Lib.hid hv
        clear hv
        have HS := Lib.hid (hown.set j v)
        go_wp2
        go_roundw
        case rel => exact ⟨j + 1, by omega, by go_num, by rw [← part_set (F := fun k => wrap32 (f k + g * f2 k)) (v := v) HV.out.symm]; exact HS.out, hbr.setCell (by simp; omega) _, by simpa [World.setCell] using hsz⟩
        case measure => simp [intOf]; omega
      · have hjk : j = M := by omega
        subst hjk
        go_wp2
        go_ret
        exact fresh_of (by rw [← HT.out, tab_length]) (by rw [← HT.out, ← part_done]; exact hown.mono (Nat.le_refl _) hsz) hbr

end Go.Proofs.Ytfgdkecmhgkpfaa
