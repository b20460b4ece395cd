/- Walks: quotients of series. -/
import Derived.Test.YtfgdkecmhgkpfaaVo
import Derived.Test.YtfgdkecmhgkpfaaWe
namespace Go.Proofs.Ytfgdkecmhgkpfaa
open Go.RowKit
set_option linter.unusedVariables false
set_option linter.unusedSimpArgs false

theorem qIn_step {b : Nat → Int} {out : List Int} {i : Nat} {x : Int} {k : Nat} (h : 1 ≤ k) : qIn b out i x k = wrap32 (qIn b out i x (k - 1) - b k * out.getD (i - k) 0) := by
  obtain ⟨t, rfl⟩ : ∃ t, k = t + 1 := ⟨k - 1, by omega⟩
  rfl
theorem subl_comm (a b : Int) : wrap32 (a - wrap32 b) = wrap32 (a - b) := wrap32_subr a b

set_option maxHeartbeats 2000000 in
theorem l04Quotient_any (A : Option Addr) (c : Nat) (xs : List Int) (A2 : Option Addr) (c2 : Nat) (ys : List Int) (n : Nat) (w : World) (h : Arg w A c xs) (h2 : Arg w A2 c2 ys) (s2 : Smp ys) (hy : 1 ≤ ys.length) (hn : n ≤ 1048576) :
    Calls Try.prog 37 #[.slice A xs.length c, .slice A2 ys.length c2, .int .i64 n] w (Fresh (qL (fun k => xs.getD k 0) (fun k => ys.getD k 0) ys.length (invN (ys.getD 0 0) 5) n) w) := by
  have AT : Hid (∀ wr, Below w.heap.size w wr → ∀ (i : Int) (k : Nat), i = k → k ≤ 1099511627776 → Calls Try.prog 57 #[.slice A xs.length c, .int .i64 i] wr (NumIs (xs.getD k 0) wr)) :=
    fun wr hb i k => l03At_any A c xs wr (h.below hb) i k
  have hl2 := h2.len
  have S2 := Lib.hid s2
  clear s2
  unfold Smp at S2
  obtain ⟨f, hf⟩ : ∃ f : Nat → Int, f = fun k => xs.getD k 0 := ⟨_, rfl⟩
  obtain ⟨f2, hf2⟩ : ∃ f : Nat → Int, f = fun k => ys.getD k 0 := ⟨_, rfl⟩
  have C2 : Hid (∀ k, k < ys.length → ∃ b o, A2 = some ⟨b, o, none⟩ ∧ b < w.heap.size ∧ w.cell? ⟨b, o + k, none⟩ = some (.int .i64 (f2 k))) := by
    intro k hk
    obtain ⟨b, o, e1, e2, e3⟩ := h2.sl (by omega)
    exact ⟨b, o, e1, e2, by rw [hf2]; exact e3 k hk⟩
  clear h h2
  simp only [← hf, ← congrFun hf _, ← hf2, ← congrFun hf2 _] at AT S2 ⊢
  clear hf hf2
  have HQ : Hid (∀ j, qL f f2 ys.length (invN (f2 0) 5) (j + 1) = qL f f2 ys.length (invN (f2 0) 5) j ++ [wrap32 (qIn f2 (qL f f2 ys.length (invN (f2 0) 5) j) j (f j) (min j (ys.length - 1)) * invN (f2 0) 5)]) := fun j => rfl
  have HQ0 : Hid ([] = qL f f2 ys.length (invN (f2 0) 5) 0) := rfl
  have HQL := Lib.hid (qL_length f f2 ys.length (invN (f2 0) 5))
  have HQI := Lib.hid (qL_in f f2 ys.length (invN (f2 0) 5))
  generalize qL f f2 ys.length (invN (f2 0) 5) = Q at *
  generalize xs.length = lx at *
  generalize ys.length = ly at *
  obtain ⟨b, o, rfl, hb, e0⟩ := C2.out 0 (by omega)
  obtain ⟨p1, p2⟩ := S2.out 0
  have e0' : w.cell? ⟨b, o, none⟩ = some (.int .i64 (f2 0)) := e0
  clear e0
  have HI := Lib.hid (l04Inverse_any (f2 0) w p1 p2)
  generalize invN (f2 0) 5 = inv at *
  generalize f2 0 = y0 at *
  go_enter Try.func37, Try.ntmps37
  go_wp2_with fail
  refine HI.out.mono ?_
  rintro e w1 ⟨rfl, rfl⟩
  clear e0' HI
  go_wp2
  go_loopw [8, 9, 10, 11] (fun v i _ _ wr => ∃ (j : Nat) (A : Option Addr) (c : Nat), j ≤ n ∧ i = .int .i64 j ∧ v = .slice A j c ∧ Own wr w.heap.size wr.heap.size A c (Q j) ∧ Below w.heap.size w wr) (fun _ i _ _ _ => n - (intOf i).toNat)
  case atStart => exact ⟨0, _, _, by omega, rfl, rfl, by rw [← HQ0.out]; exact Own.empty w, by (repeat (first | exact Below.refl _ _ | assumption | refine Below.setCell ?_ (by (try simp) <;> omega) _ | refine Below.alloc ?_ (by (try simp) <;> omega) _ | refine below_drewN_ ?_ | refine Below.drew ?_))⟩
  case round =>
    obtain ⟨j, A1, c1, hj, rfl, rfl, hown, hbr⟩ := hrel
    have hsz := hbr.size
    by_cases hlt : j < n
    · go_wp2_with fail
      refine (AT.out _ hbr _ j rfl (by omega)).mono ?_
      rintro e w' ⟨rfl, rfl⟩
      obtain ⟨W, hW⟩ : ∃ W, W = wr := ⟨_, rfl⟩
      subst hW
      have HOWN := Lib.hid hown
      have HX := Lib.hid (HQ.out j)
      have ST : Hid (∀ k, 1 ≤ k → qIn f2 (Q j) j (f j) k = wrap32 (qIn f2 (Q j) j (f j) (k - 1) - f2 k * (Q j).getD (j - k) 0)) := fun k hk => qIn_step hk
      have S0 : Hid (f j = qIn f2 (Q j) j (f j) 0) := rfl
      have QL := Lib.hid (HQL.out j)
      clear hown
      generalize qIn f2 (Q j) j (f j) = R at *
      generalize f j = fj at *
      go_wp2
      go_loopw [10, 11] (fun x k wq => ∃ t m : Nat, 1 ≤ t ∧ t ≤ min j (ly - 1) + 1 ∧ k = .int .i64 t ∧ x = .int .i64 (R (t - 1)) ∧ wq = W.drewN m) (fun _ k _ => ly - (intOf k).toNat)
      case atStart => exact ⟨1, 0, by omega, by omega, rfl, by rw [S0.out], rfl⟩
      case round =>
        obtain ⟨t, m, ht1, ht2, rfl, rfl, hwr⟩ := hrel
        have HW := Lib.hid hwr
        have hcw : ∀ p, wr.cell? p = W.cell? p := fun p => by rw [hwr]; rfl
        have HCW := Lib.hid hcw
        clear hwr hcw
        by_cases hlt2 : t ≤ min j (ly - 1)
        · obtain ⟨_, _, h1, _, e0⟩ := C2.out t (by omega)
          injection h1 with h1
          injection h1 with h1 h2
          subst h1 h2
          have e1 := ((bcell hbr).1 b (o + t) hb).trans e0
          rw [← HCW.out] at e1
          clear e0
          obtain ⟨g, rfl, hlo, hhi⟩ := HOWN.out.form (by rw [QL.out]; omega)
          have c0 := HOWN.out.cell (j - t) (by rw [QL.out]; omega)
          rw [← HCW.out] at c0
          have HST := Lib.hid (ST.out t ht1)
          generalize (Q j).getD (j - t) 0 = z at *
          generalize f2 t = y at *
          generalize R (t - 1) = x at *
          have q1 : (t : Int) ≤ (j : Int) := by omega
          have q2 : (t : Int) < (ly : Int) := by omega
          have k1 : IntKind.i64.wrap ((j : Int) - (t : Int)) = (j : Int) - (t : Int) := IntWalk.i64_in _ (by omega)
          have k2 : (0 : Int) ≤ (j : Int) - (t : Int) := by omega
          have k3 : ((j : Int) - (t : Int)).toNat = j - t := by omega
          have k4 : (j : Int) - (t : Int) < (j : Int) := by omega
          go_wp2
          go_quiet ((first | (go_at_call 59; exact quiet_eq (specMul_any _ _ _)) | (go_at_call 58; exact quiet_eq (specSub_any _ _ _))))
          clear k1 k2 k3 k4
          go_wp2
          go_roundw
          case rel => exact ⟨t + 1, _, by omega, by omega, by go_num, by rw [show t + 1 - 1 = t by omega, HST.out, wrap32_subr], by first | (rw [HW.out]; done) | (rw [HW.out]; rfl) | (rw [HW.out]; exact World.drewN_drewN ..)⟩
          case measure => simp [intOf]; omega
        · have HR := Lib.hid (show R (t - 1) = R (min j (ly - 1)) by rw [show t - 1 = min j (ly - 1) by omega])
          have hown' : Own wr w.heap.size wr.heap.size A1 c1 (Q j) := by rw [HW.out]; exact HOWN.out.drewN m
          have hbr' : Below w.heap.size w wr := by rw [HW.out]; exact below_drewN_ hbr
          have hsz' := hbr'.size
          clear HOWN HW HCW
          generalize R (t - 1) = x at *
          rcases Nat.lt_or_ge j t with hjt | hjt
          · have q1 : ¬ (t : Int) ≤ (j : Int) := by omega
            go_wp2_with fail
            refine (specMul_any _ _ _).mono ?_
            rintro e w' ⟨rfl, rfl⟩
            generalize hv : wrap32 (x * inv) = v
            have HV := Lib.hid hv
            clear hv
            go_wp2_with (at_builtin; refine wl_app1 rfl (.tmp 49) (.tmp 53) rfl A1 c1 _ v _ rfl hown' ?c1 rfl ?c2 ?c3 ?_)
            case c1 => rw [QL.out]
            case c2 => omega
            case c3 => omega
            intro A' c' w' hown2 hb'
            go_wp2
            go_roundw
            case rel => exact ⟨j + 1, A', c', by omega, by go_num, rfl, by rw [HX.out, ← HR.out, HV.out]; exact hown2, hbr'.trans hb'⟩
            case measure => simp [intOf]; omega
          · have q1 : (t : Int) ≤ (j : Int) := by omega
            have q2 : ¬ (t : Int) < (ly : Int) := by omega
            go_wp2_with fail
            refine (specMul_any _ _ _).mono ?_
            rintro e w' ⟨rfl, rfl⟩
            generalize hv : wrap32 (x * inv) = v
            have HV := Lib.hid hv
            clear hv
            go_wp2_with (at_builtin; refine wl_app1 rfl (.tmp 49) (.tmp 53) rfl A1 c1 _ v _ rfl hown' ?c1 rfl ?c2 ?c3 ?_)
            case c1 => rw [QL.out]
            case c2 => omega
            case c3 => omega
            intro A' c' w' hown2 hb'
            go_wp2
            go_roundw
            case rel => exact ⟨j + 1, A', c', by omega, by go_num, rfl, by rw [HX.out, ← HR.out, HV.out]; exact hown2, hbr'.trans hb'⟩
            case measure => simp [intOf]; omega
    · have hjk : j = n := by omega
      subst hjk
      go_wp2
      go_ret
      exact fresh_of (HQL.out j).symm hown hbr
set_option maxHeartbeats 2000000 in
theorem quotient_any (A : Option Addr) (c : Nat) (xs : List Int) (A2 : Option Addr) (c2 : Nat) (ys : List Int) (n : Nat) (w : World) (h : Arg w A c xs) (h2 : Arg w A2 c2 ys) (s1 : Smp xs) (s2 : Smp ys) (hy : 1 ≤ ys.length) (hn : n ≤ 1048576) :
    Calls Try.prog 40 #[.slice A xs.length c, .slice A2 ys.length c2, .int .i64 n] w (Fresh (qL (fun k => xs.getD k 0) (fun k => ys.getD k 0) ys.length (invN (ys.getD 0 0) 5) n) w) := by
  have AT : Hid (∀ wr, Below w.heap.size w wr → ∀ (i : Int) (k : Nat), i = k → k ≤ 1099511627776 → Calls Try.prog 63 #[.slice A xs.length c, .int .i64 i] wr (NumIs (xs.getD k 0) wr)) :=
    fun wr hb i k => at_any A c xs wr (h.below hb) i k
  have hl2 := h2.len
  have S1 := Lib.hid s1
  have S2 := Lib.hid s2
  clear s1 s2
  unfold Smp at S1 S2
  obtain ⟨f, hf⟩ : ∃ f : Nat → Int, f = fun k => xs.getD k 0 := ⟨_, rfl⟩
  obtain ⟨f2, hf2⟩ : ∃ f : Nat → Int, f = fun k => ys.getD k 0 := ⟨_, rfl⟩
  have C2 : Hid (∀ k, k < ys.length → ∃ b o, A2 = some ⟨b, o, none⟩ ∧ b < w.heap.size ∧ w.cell? ⟨b, o + k, none⟩ = some (.int .i64 (f2 k))) := by
    intro k hk
    obtain ⟨b, o, e1, e2, e3⟩ := h2.sl (by omega)
    exact ⟨b, o, e1, e2, by rw [hf2]; exact e3 k hk⟩
  clear h h2
  simp only [← hf, ← congrFun hf _, ← hf2, ← congrFun hf2 _] at AT S1 S2 ⊢
  clear hf hf2
  have HQ : Hid (∀ j, qL f f2 ys.length (invN (f2 0) 5) (j + 1) = qL f f2 ys.length (invN (f2 0) 5) j ++ [wrap32 (qIn f2 (qL f f2 ys.length (invN (f2 0) 5) j) j (f j) (min j (ys.length - 1)) * invN (f2 0) 5)]) := fun j => rfl
  have HQ0 : Hid ([] = qL f f2 ys.length (invN (f2 0) 5) 0) := rfl
  have HQL := Lib.hid (qL_length f f2 ys.length (invN (f2 0) 5))
  have HQI := Lib.hid (qL_in f f2 ys.length (invN (f2 0) 5))
  generalize qL f f2 ys.length (invN (f2 0) 5) = Q at *
  generalize xs.length = lx at *
  generalize ys.length = ly at *
  obtain ⟨b, o, rfl, hb, e0⟩ := C2.out 0 (by omega)
  obtain ⟨p1, p2⟩ := S2.out 0
  have e0' : w.cell? ⟨b, o, none⟩ = some (.int .i64 (f2 0)) := e0
  clear e0
  have HI := Lib.hid (inverse_any (f2 0) w p1 p2)
  obtain ⟨i1, i2⟩ := invN_lo p1 p2 5
  generalize invN (f2 0) 5 = inv at *
  generalize f2 0 = y0 at *
  go_enter Try.func40, Try.ntmps40
  go_wp2_with fail
  refine HI.out.mono ?_
  rintro e w1 ⟨rfl, rfl⟩
  clear e0' HI
  go_wp2_with fail
  refine (zerosN_any _ n rfl _ (by omega)).mono ?_
  rintro e w1 ⟨A1, c1, rfl, hO1, hb1⟩
  have hO2 := Lib.hid hO1
  clear hO1
  go_wp2
  go_loopw [9, 10, 11, 20] (fun _ _ _ i wr => ∃ (j : Nat), j ≤ n ∧ i = .int .i64 j ∧ Own wr w.heap.size w1.heap.size A1 c1 (fill (Q j) n) ∧ Below w.heap.size w wr ∧ w1.heap.size ≤ wr.heap.size) (fun _ _ _ i _ => n - (intOf i).toNat)
  case atStart => exact ⟨0, by omega, rfl, by rw [← HQ0.out, fill_zero]; exact hO2.out, hb1, Nat.le_refl _⟩
  case round =>
    obtain ⟨j, hj, rfl, hown, hbr, hsz⟩ := hrel
    by_cases hlt : j < n
    · go_wp2_with fail
      refine (AT.out _ hbr _ j rfl (by omega)).mono ?_
      rintro e w' ⟨rfl, rfl⟩
      obtain ⟨W, hW⟩ : ∃ W, W = wr := ⟨_, rfl⟩
      subst hW
      have QL := Lib.hid (HQL.out j)
      have FL : Hid ((fill (Q j) n).length = n) := fill_length (by rw [QL.out]; omega)
      have HOWN := Lib.hid hown
      have HX := Lib.hid (HQ.out j)
      have ST : Hid (∀ k, 1 ≤ k → qIn f2 (Q j) j (f j) k = wrap32 (qIn f2 (Q j) j (f j) (k - 1) - f2 k * (Q j).getD (j - k) 0)) := fun k hk => qIn_step hk
      have S0 : Hid (f j = qIn f2 (Q j) j (f j) 0) := rfl
      have RI := Lib.hid (qIn_in (b := f2) (out := Q j) (i := j) (S1.out j))
      have ZI := Lib.hid (getD_in (HQI.out j))
      clear hown
      generalize qIn f2 (Q j) j (f j) = R at *
      generalize f j = fj at *
      go_wp2
      go_loopw [10, 11] (fun x k wq => ∃ t m : Nat, 1 ≤ t ∧ t ≤ min j (ly - 1) + 1 ∧ k = .int .i64 t ∧ x = .int .i64 (R (t - 1)) ∧ wq = W.drewN m) (fun _ k _ => ly - (intOf k).toNat)
      case atStart => exact ⟨1, 0, by omega, by omega, rfl, by rw [S0.out], rfl⟩
      case round =>
        obtain ⟨t, m, ht1, ht2, rfl, rfl, hwr⟩ := hrel
        have HW := Lib.hid hwr
        have hcw : ∀ p, wr.cell? p = W.cell? p := fun p => by rw [hwr]; rfl
        have HCW := Lib.hid hcw
        clear hwr hcw
        obtain ⟨x1, x2⟩ := RI.out (t - 1)
        obtain ⟨g, rfl, hlo, hhi⟩ := HOWN.out.form (by rw [FL.out]; omega)
        by_cases hlt2 : t ≤ min j (ly - 1)
        · obtain ⟨_, _, h1, _, e0⟩ := C2.out t (by omega)
          injection h1 with h1
          injection h1 with h1 h2
          subst h1 h2
          have e1 := ((bcell hbr).1 b (o + t) hb).trans e0
          rw [← HCW.out] at e1
          clear e0
          have c0 := HOWN.out.cell (j - t) (by rw [FL.out]; omega)
          rw [← HCW.out, fill_getD (by rw [QL.out]; omega)] at c0
          have HST := Lib.hid (ST.out t ht1)
          obtain ⟨z1, z2⟩ := ZI.out (j - t)
          obtain ⟨y1, y2⟩ := S2.out t
          obtain ⟨r1, r2⟩ := smp_mul y1 y2 z1 z2
          generalize (Q j).getD (j - t) 0 = z at *
          generalize f2 t = y at *
          generalize R (t - 1) = x at *
          have q1 : (t : Int) ≤ (j : Int) := by omega
          have q2 : (t : Int) < (ly : Int) := by omega
          have k1 : IntKind.i64.wrap ((j : Int) - (t : Int)) = (j : Int) - (t : Int) := IntWalk.i64_in _ (by omega)
          have k2 : (0 : Int) ≤ (j : Int) - (t : Int) := by omega
          have k3 : ((j : Int) - (t : Int)).toNat = j - t := by omega
          have k4 : (j : Int) - (t : Int) < (n : Int) := by omega
          have k5 : IntKind.i64.wrap (y * z) = y * z := IntWalk.i64_in _ (by omega)
          have k6 : IntKind.i64.wrap (x - y * z) = x - y * z := IntWalk.i64_in _ (by omega)
          go_wp2
          go_quiet ((go_at_call 55; exact quiet_eq (implWrap_any _ _)))
          clear k1 k2 k3 k4 k5 k6
          go_wp2
          go_roundw
          case rel => exact ⟨t + 1, _, by omega, by omega, by go_num, by rw [show t + 1 - 1 = t by omega, HST.out], by first | (rw [HW.out]; done) | (rw [HW.out]; rfl) | (rw [HW.out]; exact World.drewN_drewN ..)⟩
          case measure => simp [intOf]; omega
        · have HR := Lib.hid (show R (t - 1) = R (min j (ly - 1)) by rw [show t - 1 = min j (ly - 1) by omega])
          have hown' : Own wr w.heap.size w1.heap.size (some ⟨g, 0, none⟩) c1 (fill (Q j) n) := by rw [HW.out]; exact HOWN.out.drewN m
          have hbr' : Below w.heap.size w wr := by rw [HW.out]; exact below_drewN_ hbr
          have hsz' : w1.heap.size ≤ wr.heap.size := by rw [HW.out]; exact hsz
          have c0 := hown'.cell j (by rw [FL.out]; omega)
          have f0 := hown'.notFrozen j
          have HS := Lib.hid (hown'.set j (wrap32 (R (min j (ly - 1)) * inv)))
          rw [fill_set QL.out hlt, ← HX.out, ← HR.out] at HS
          obtain ⟨r1, r2⟩ := smp_mul x1 x2 i1 i2
          clear HOWN HW HCW hown' HX HR
          generalize (fill (Q j) n).getD j 0 = y at *
          generalize R (t - 1) = x at *
          rcases Nat.lt_or_ge t ly with hjt | hjt
          · have q2 : (t : Int) < (ly : Int) := by omega
            have q1 : ¬ (t : Int) ≤ (j : Int) := by omega
            go_wp2_with (go_at_call 55; refine (implWrap_any _ _).mono ?_; rintro e w' ⟨rfl, rfl⟩)
            go_roundw
            case rel => exact ⟨j + 1, by omega, by go_num, HS.out, hbr'.setCell (by simp; omega) _, by simpa [World.setCell] using hsz'⟩
            case measure => simp [intOf]; omega
          · have q2 : ¬ (t : Int) < (ly : Int) := by omega
            go_wp2_with (go_at_call 55; refine (implWrap_any _ _).mono ?_; rintro e w' ⟨rfl, rfl⟩)
            go_roundw
            case rel => exact ⟨j + 1, by omega, by go_num, HS.out, hbr'.setCell (by simp; omega) _, by simpa [World.setCell] using hsz'⟩
            case measure => simp [intOf]; omega
    · have hjk : j = n := by omega
      subst hjk
      have FA : Hid (fill (Q j) j = Q j) := fill_all (by rw [HQL.out]; omega)
      go_wp2
      go_ret
      exact fresh_of (HQL.out j).symm (by rw [← FA.out]; exact hown.mono (Nat.le_refl _) hsz) hbr

end Go.Proofs.Ytfgdkecmhgkpfaa
