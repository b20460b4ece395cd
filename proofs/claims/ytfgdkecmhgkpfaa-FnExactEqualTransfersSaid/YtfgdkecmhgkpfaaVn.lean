/- Walks: products of lists of coefficients. -/
import Derived.Test.YtfgdkecmhgkpfaaVk
import Derived.Test.YtfgdkecmhgkpfaaPm
import Derived.StillTailTactics
namespace Go.Proofs.Ytfgdkecmhgkpfaa
open Go.RowKit
set_option linter.unusedVariables false
set_option linter.unusedSimpArgs false

theorem still_of {P : Program} {f : FuncId} {args : Array Value} {w : World} {v : Value} (h : Calls P f args w fun e w' => e = .returned v ∧ w = w') : Calls P f args w fun e w'' => e = .returned v ∧ w'' = w :=
  h.mono fun _ _ ⟨he, hw⟩ => ⟨he, hw.symm⟩

set_option maxHeartbeats 2000000 in
theorem mulPoly_any (A : Option Addr) (c : Nat) (xs : List Int) (A2 : Option Addr) (c2 : Nat) (ys : List Int) (w : World) (h : Arg w A c xs) (h2 : Arg w A2 c2 ys) (s : Smp xs) (s2 : Smp ys) (hlen : xs.length + ys.length ≤ 1048576) :
    Calls Try.prog 35 #[.slice A xs.length c, .slice A2 ys.length c2] w (Fresh (mulL xs ys) w) := by
  have S1 := Lib.hid s
  have S2 := Lib.hid s2
  clear s s2
  unfold Smp at S1 S2
  have HT : Hid (trimL (tab (xs.length + ys.length) (rowsN (fun k => xs.getD k 0) (fun k => ys.getD k 0) ys.length xs.length)) = mulL xs ys) := rfl
  obtain ⟨f, hf⟩ : ∃ f : Nat → Int, f = fun k => xs.getD k 0 := ⟨_, rfl⟩
  obtain ⟨f2, hf2⟩ : ∃ f : Nat → Int, f = fun k => ys.getD k 0 := ⟨_, rfl⟩
  have C : Hid (∀ k, k < xs.length → ∃ b o, A = some ⟨b, o, none⟩ ∧ b < w.heap.size ∧ w.cell? ⟨b, o + k, none⟩ = some (.int .i64 (f k))) := by
    intro k hk
    obtain ⟨b, o, e1, e2, e3⟩ := h.sl (by omega)
    exact ⟨b, o, e1, e2, by rw [hf]; exact e3 k hk⟩
  have C2 : Hid (∀ k, k < ys.length → ∃ b o, A2 = some ⟨b, o, none⟩ ∧ b < w.heap.size ∧ w.cell? ⟨b, o + k, none⟩ = some (.int .i64 (f2 k))) := by
    intro k hk
    obtain ⟨b, o, e1, e2, e3⟩ := h2.sl (by omega)
    exact ⟨b, o, e1, e2, by rw [hf2]; exact e3 k hk⟩
  clear h h2
  simp only [← hf, ← congrFun hf _, ← hf2, ← congrFun hf2 _] at HT S1 S2
  clear hf hf2
  generalize mulL xs ys = r at *
  generalize xs.length = n at *
  generalize ys.length = n2 at *
  go_enter Try.func35, Try.ntmps35
  go_wp2_with fail
  refine (size_any _ _ _ _).mono ?_
  rintro e w1 ⟨rfl, rfl⟩
  go_wp2_with fail
  refine (size_any _ _ _ _).mono ?_
  rintro e w1 ⟨rfl, rfl⟩
  go_wp2_with fail
  refine (zerosN_any _ (n + n2) (by omega) _ (by omega)).mono ?_
  rintro e w1 ⟨A1, c1, rfl, hO1, hb1⟩
  have hO2 := Lib.hid hO1
  clear hO1
  have hM : ∃ M, M = n + n2 := ⟨_, rfl⟩
  obtain ⟨M, hM⟩ := hM
  rw [← hM] at HT hO2 ⊢
  have HM := Lib.hid hM
  have hMl : n + n2 ≤ M := by omega
  have hMl' : M ≤ 1048576 := by omega
  clear hM
  go_wp2
  go_loopw [6, 7, 8, 9, 18, 25] (fun _ _ _ _ i _ wr => ∃ (a : Nat), a ≤ n ∧ i = .int .i64 a ∧ Own wr w.heap.size w1.heap.size A1 c1 (tab M (rowsN f f2 n2 a)) ∧ Below w.heap.size w wr ∧ w1.heap.size ≤ wr.heap.size) (fun _ _ _ _ i _ _ => n - (intOf i).toNat)
  case atStart => exact ⟨0, by omega, rfl, by rw [show tab M (rowsN f f2 n2 0) = List.replicate M 0 from (replicate_tab M).symm]; exact hO2.out, hb1, Nat.le_refl _⟩
  case round =>
    obtain ⟨a, ha, rfl, hown, hbr, hsz⟩ := hrel
    by_cases hlt : a < n
    · obtain ⟨b, o, rfl, hb, e0⟩ := C.out a hlt
      have e1 := ((bcell hbr).1 b (o + a) hb).trans e0
      clear e0
      obtain ⟨p1, p2⟩ := S1.out a
      have HST : Hid (rowN (f a) f2 a (rowsN f f2 n2 a) n2 = rowsN f f2 n2 (a + 1)) := rfl
      have HIN := Lib.hid (rowN_in (x := f a) (g := f2) (i := a) (rowsN_in (f := f) (g := f2) (lb := n2) a))
      have hown' : Own wr w.heap.size w1.heap.size A1 c1 (tab M (rowN (f a) f2 a (rowsN f f2 n2 a) 0)) := hown
      clear hown
      have HOWN := Lib.hid hown'
      clear hown'
      generalize rowsN f f2 n2 a = F at *
      generalize f a = x at *
      go_wp2
      go_loopw [8, 9, 25] (fun _ _ k wq => ∃ (j : Nat), j ≤ n2 ∧ k = .int .i64 j ∧ Own wq w.heap.size w1.heap.size A1 c1 (tab M (rowN x f2 a F j)) ∧ Below w.heap.size w wq ∧ w1.heap.size ≤ wq.heap.size) (fun _ _ k _ => n2 - (intOf k).toNat)
      case atStart => exact ⟨0, by omega, rfl, HOWN.out, hbr, hsz⟩
      case round =>
        clear e1 hbr hsz
        obtain ⟨j, hj, rfl, hown, hbr, hsz⟩ := hrel
        by_cases hlt2 : j < n2
        · obtain ⟨b2, o2, rfl, hb2, e0⟩ := C2.out j hlt2
          have e1 := ((bcell hbr).1 b2 (o2 + j) hb2).trans e0
          clear e0
          obtain ⟨q1, q2⟩ := S2.out j
          obtain ⟨r1, r2⟩ := smp_mul p1 p2 q1 q2
          obtain ⟨s1, s2⟩ := HIN.out j (a + j)
          have HST2 : Hid (upd (rowN x f2 a F j) (a + j) (wrap32 (rowN x f2 a F j (a + j) + x * f2 j)) = rowN x f2 a F (j + 1)) := rfl
          obtain ⟨g, rfl, hlo, hhi⟩ := hown.form (by rw [tab_length]; omega)
          have c0 := hown.cell (a + j) (by rw [tab_length]; omega)
          rw [tab_getD (by omega)] at c0
          have f0 := hown.notFrozen (a + j)
          have HS := Lib.hid (hown.set (a + j) (wrap32 (rowN x f2 a F j (a + j) + x * f2 j)))
          rw [tab_set, HST2.out] at HS
          clear hown HST2
          generalize rowN x f2 a F j (a + j) = y at *
          generalize f2 j = z at *
          go_wp2_with (go_at_call 55; refine (implWrap_any _ _).mono ?_; rintro e w' ⟨rfl, rfl⟩)
          go_roundw
          case rel => exact ⟨j + 1, by omega, by go_num, HS.out, hbr.setCell (by simp; omega) _, by simpa [World.setCell] using hsz⟩
          case measure => simp [intOf]; omega
        · have hjk : j = n2 := by omega
          subst hjk
          rw [HST.out] at hown
          go_wp2
          go_roundw
          case rel => exact ⟨a + 1, by omega, by go_num, hown, hbr, hsz⟩
          case measure => simp [intOf]; omega
    · have hjk : a = n := by omega
      subst hjk
      have HA := Lib.hid (trim_any A1 c1 _ _ ((hown.mono (Nat.le_refl _) hsz).argOf (by rw [tab_length]; omega) (tab_all fun k _ => rowsN_in _ _)))
      rw [tab_length, HT.out] at HA
      clear hown
      go_wp2_with fail
      refine HA.out.mono ?_
      rintro e w2 ⟨A3, c3, rfl, hO3, hb3⟩
      go_wp2
      go_ret
      exact fresh_of rfl (hO3.mono hbr.size (Nat.le_refl _)) (nxt hbr hb3 hbr.size)
set_option maxHeartbeats 2000000 in
theorem l04Mul_any (A : Option Addr) (c : Nat) (xs : List Int) (A2 : Option Addr) (c2 : Nat) (ys : List Int) (w : World) (h : Arg w A c xs) (h2 : Arg w A2 c2 ys) (hlen : xs.length + ys.length ≤ 1048576) :
    Calls Try.prog 47 #[.slice A xs.length c, .slice A2 ys.length c2] w (Fresh (mulL xs ys) w) := by
  obtain ⟨i0, hi, hz0, hz1, hz2⟩ := info_parts infoI
  by_cases hnone : xs.length = 0 ∨ ys.length = 0
  · have HX := Lib.hid (mulL_none hnone)
    generalize mulL xs ys = r at *
    obtain rfl := HX.out
    clear h h2 hlen
    generalize xs.length = n at *
    generalize ys.length = n2 at *
    rcases Nat.eq_zero_or_pos n with h0 | h0
    · subst h0
      clear hnone
      go_enter Try.func47, Try.ntmps47
      go_wp2
      go_ret
      exact fresh_of rfl (Own.one w 0) (by (repeat (first | exact Below.refl _ _ | assumption | refine Below.setCell ?_ (by (try simp) <;> omega) _ | refine Below.alloc ?_ (by (try simp) <;> omega) _ | refine below_drewN_ ?_ | refine Below.drew ?_)))
    · obtain rfl : n2 = 0 := by omega
      clear hnone
      have hn0 : ((n : Int) == 0) = false := by simp; omega
      go_enter Try.func47, Try.ntmps47
      go_wp2
      go_ret
      exact fresh_of rfl (Own.one w 0) (by (repeat (first | exact Below.refl _ _ | assumption | refine Below.setCell ?_ (by (try simp) <;> omega) _ | refine Below.alloc ?_ (by (try simp) <;> omega) _ | refine below_drewN_ ?_ | refine Below.drew ?_)))
  have HT : Hid (trimL (tab (xs.length + ys.length - 1) (rowsN (fun k => xs.getD k 0) (fun k => ys.getD k 0) ys.length xs.length)) = mulL xs ys) := mulL_spec
  obtain ⟨f, hf⟩ : ∃ f : Nat → Int, f = fun k => xs.getD k 0 := ⟨_, rfl⟩
  obtain ⟨f2, hf2⟩ : ∃ f : Nat → Int, f = fun k => ys.getD k 0 := ⟨_, rfl⟩
  have C : Hid (∀ k, k < xs.length → ∃ b o, A = some ⟨b, o, none⟩ ∧ b < w.heap.size ∧ w.cell? ⟨b, o + k, none⟩ = some (.int .i64 (f k))) := by
    intro k hk
    obtain ⟨b, o, e1, e2, e3⟩ := h.sl (by omega)
    exact ⟨b, o, e1, e2, by rw [hf]; exact e3 k hk⟩
  have C2 : Hid (∀ k, k < ys.length → ∃ b o, A2 = some ⟨b, o, none⟩ ∧ b < w.heap.size ∧ w.cell? ⟨b, o + k, none⟩ = some (.int .i64 (f2 k))) := by
    intro k hk
    obtain ⟨b, o, e1, e2, e3⟩ := h2.sl (by omega)
    exact ⟨b, o, e1, e2, by rw [hf2]; exact e3 k hk⟩
  clear h h2
  simp only [← hf, ← hf2] at HT
  clear hf hf2
  generalize mulL xs ys = r at *
  generalize xs.length = n at *
  generalize ys.length = n2 at *
  have hn1 : 1 ≤ n := by omega
  have hn2 : 1 ≤ n2 := by omega
  have hn0 : ((n : Int) == 0) = false := by simp; omega
  have hn20 : ((n2 : Int) == 0) = false := by simp; omega
  clear hnone
  have hM : ∃ M, M = n + n2 - 1 := ⟨_, rfl⟩
  obtain ⟨M, hM⟩ := hM
  rw [← hM] at HT
  have hMl : n + n2 ≤ M + 1 := by omega
  have hMl' : M ≤ 1048576 := by omega
  have HMI := Lib.hid (show (n : Int) + (n2 : Int) - 1 = (M : Int) by omega)
  clear hM
  go_enter Try.func47, Try.ntmps47
  go_wp2_with (at_make; refine wpList_make_full _ rfl (.tmp 22) (.tmp 22) 22 rfl w.heap.size 2 i0 (.int .i64 0) 1 Try.underlying22 hi hz0 hz1 .i64 .i64 _ _ M rfl rfl HMI.out HMI.out (by rw [hz2]; omega) (by unfold maxLen; omega) (Nat.le_refl _) ?_; intro w1 hown0 hgr)
  have hO2 := Lib.hid (made_own hown0)
  have hb1 := (Below.refl w.heap.size w).grown hgr (Nat.le_refl _) (fun k h => by cases h)
  have hz := own_size (made_own hown0)
  clear hown0 hgr
  generalize hhi : w.heap.size + 1 = hi1 at *
  clear hhi
  generalize some (⟨w.heap.size, 0, none⟩ : Addr) = A1 at *
  go_loopw [6, 7] (fun i _ wr => ∃ (a : Nat), a ≤ n ∧ i = .int .i64 a ∧ Own wr w.heap.size hi1 A1 M (tab M (rowsN f f2 n2 a)) ∧ Below w.heap.size w wr ∧ hi1 ≤ wr.heap.size) (fun i _ _ => n - (intOf i).toNat)
  case atStart => exact ⟨0, by omega, rfl, by rw [show tab M (rowsN f f2 n2 0) = List.replicate M 0 from (replicate_tab M).symm]; exact hO2.out, hb1, hz⟩
  case round =>
    obtain ⟨a, ha, rfl, hown, hbr, hsz⟩ := hrel
    by_cases hlt : a < n
    · obtain ⟨b, o, rfl, hb, e0⟩ := C.out a hlt
      have E1 : Hid (∀ wq, Below w.heap.size w wq → wq.cell? ⟨b, o + a, none⟩ = some (.int .i64 (f a))) := fun wq hq => ((bcell hq).1 b (o + a) hb).trans e0
      clear e0
      have HST : Hid (rowN (f a) f2 a (rowsN f f2 n2 a) n2 = rowsN f f2 n2 (a + 1)) := rfl
      have HIN := Lib.hid (rowN_in (x := f a) (g := f2) (i := a) (rowsN_in (f := f) (g := f2) (lb := n2) a))
      have hown' : Own wr w.heap.size hi1 A1 M (tab M (rowN (f a) f2 a (rowsN f f2 n2 a) 0)) := hown
      clear hown
      have HOWN := Lib.hid hown'
      clear hown'
      generalize rowsN f f2 n2 a = F at *
      generalize f a = x at *
      go_wp2
      go_loopw [7] (fun k wq => ∃ (j : Nat), j ≤ n2 ∧ k = .int .i64 j ∧ Own wq w.heap.size hi1 A1 M (tab M (rowN x f2 a F j)) ∧ Below w.heap.size w wq ∧ hi1 ≤ wq.heap.size) (fun k _ => n2 - (intOf k).toNat)
      case atStart => exact ⟨0, by omega, rfl, HOWN.out, hbr, hsz⟩
      case round =>
        clear hbr hsz
        obtain ⟨j, hj, rfl, hown, hbr, hsz⟩ := hrel
        by_cases hlt2 : j < n2
        · obtain ⟨b2, o2, rfl, hb2, e0⟩ := C2.out j hlt2
          have e1 := ((bcell hbr).1 b2 (o2 + j) hb2).trans e0
          have e2 := E1.out _ hbr
          clear e0
          have HST2 : Hid (upd (rowN x f2 a F j) (a + j) (wrap32 (rowN x f2 a F j (a + j) + x * f2 j)) = rowN x f2 a F (j + 1)) := rfl
          obtain ⟨g, rfl, hlo, hhi⟩ := hown.form (by rw [tab_length]; omega)
          have c0 := hown.cell (a + j) (by rw [tab_length]; omega)
          rw [tab_getD (by omega)] at c0
          have f0 := hown.notFrozen (a + j)
          have HS := Lib.hid (hown.set (a + j) (wrap32 (rowN x f2 a F j (a + j) + wrap32 (x * f2 j))))
          rw [tab_set, show upd (rowN x f2 a F j) (a + j) (wrap32 (rowN x f2 a F j (a + j) + wrap32 (x * f2 j))) = rowN x f2 a F (j + 1) by rw [wrap32_addr]; exact HST2.out] at HS
          clear hown HST2
          generalize rowN x f2 a F j (a + j) = y at *
          generalize f2 j = z at *
          have k1 : IntKind.i64.wrap ((a : Int) + (j : Int)) = (a : Int) + (j : Int) := IntWalk.i64_in _ (by omega)
          have k2 : (0 : Int) ≤ (a : Int) + (j : Int) := by omega
          have k3 : ((a : Int) + (j : Int)).toNat = a + j := by omega
          have k4 : (a : Int) + (j : Int) < (M : Int) := by omega
          have k5 : (a : Int) < (n : Int) := by omega
          have k6 : (j : Int) < (n2 : Int) := by omega
          go_wp2
          go_still_tail 21, (by kernel_rfl)
          still_call (still_of (specMul_any _ _ _))
          still_call (still_of (specAdd_any _ _ _))
          repeat still_step
          refine wpStill_nil ?_
          change wpList _ _ _ _ _ wr.drew
          have c0' : wr.drew.cell? ⟨g, a + j, none⟩ = some (.int .i64 y) := c0
          have f0' : wr.drew.frozen? ⟨g, a + j, none⟩ = false := f0
          have HS' : Hid (Own (wr.drew.setCell ⟨g, a + j, none⟩ (.int .i64 (wrap32 (y + wrap32 (x * z))))) w.heap.size hi1 (some ⟨g, 0, none⟩) M (tab M (rowN x f2 a F (j + 1)))) := HS.out
          have hbr' : Below w.heap.size w wr.drew := hbr.drew
          have hsz' : hi1 ≤ wr.drew.heap.size := hsz
          clear c0 f0 HS hbr hsz e1 e2 k1 k2 k3 k4 k5 k6
          generalize wr.drew = w2 at *
          go_wp2
          go_roundw
          case rel => exact ⟨j + 1, by omega, by go_num, HS'.out, hbr'.setCell (by simp; omega) _, by simpa [World.setCell] using hsz'⟩
          case measure => simp [intOf]; omega
        · have hjk : j = n2 := by omega
          subst hjk
          rw [HST.out] at hown
          go_wp2
          go_roundw
          case rel => exact ⟨a + 1, by omega, by go_num, hown, hbr, hsz⟩
          case measure => simp [intOf]; omega
    · have hjk : a = n := by omega
      subst hjk
      have HA := Lib.hid (l04Trim_any A1 M _ _ ((hown.mono (Nat.le_refl _) hsz).argOf (by rw [tab_length]; omega) (tab_all fun k _ => rowsN_in _ _)))
      rw [tab_length, HT.out] at HA
      clear hown
      go_wp2_with fail
      refine HA.out.mono ?_
      rintro e w2 ⟨A3, c3, rfl, hO3, hb3⟩
      go_wp2
      go_ret
      exact fresh_of rfl (hO3.mono hbr.size (Nat.le_refl _)) (nxt hbr hb3 hbr.size)

end Go.Proofs.Ytfgdkecmhgkpfaa
