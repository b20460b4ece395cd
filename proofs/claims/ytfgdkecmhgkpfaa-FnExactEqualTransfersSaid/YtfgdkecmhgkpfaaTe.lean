/- Walks: FilterSignal. -/
import Derived.Test.YtfgdkecmhgkpfaaTd
namespace Go.Proofs.Ytfgdkecmhgkpfaa
open Go.RowKit
set_option linter.unusedVariables false
set_option linter.unusedSimpArgs false

theorem fIn_step {p a : Nat → Int} {i k : Nat} : fIn p a i (k + 1) = wrap32 (fIn p a i k + p k * a (i - k)) := rfl
theorem qL_congr {a a' b : Nat → Int} {lb : Nat} {inv : Int} : ∀ {n : Nat}, (∀ k, k < n → a k = a' k) → qL a b lb inv n = qL a' b lb inv n
  | 0, _ => rfl
  | n + 1, h => by
    unfold qL
    rw [qL_congr (fun k hk => h k (by omega)), h n (by omega)]
theorem filter_eq (p a : Nat → Int) (lp : Nat) (b : Nat → Int) (lb n : Nat) : qL (fun k => (tab n (fun i => fIn p a i (min (i + 1) lp))).getD k 0) b lb 1 n = fL p a lp b lb n := by
  rw [fL_eq]
  exact qL_congr fun k hk => tab_getD hk
theorem inv_one : invN 1 5 = 1 := by decide +kernel
theorem fL_length (p a : Nat → Int) (lp : Nat) (b : Nat → Int) (lb : Nat) : ∀ i, (fL p a lp b lb i).length = i
  | 0 => rfl
  | i + 1 => by unfold fL; rw [List.length_append, fL_length p a lp b lb i]; rfl
theorem upd_upd (F : Nat → Int) (j : Nat) (v v' : Int) : upd (upd F j v) j v' = upd F j v' := by
  funext k
  unfold upd
  split <;> rfl
theorem part_start (FF : Nat → Int) (j : Nat) : part FF j = upd (part FF j) j 0 := by
  funext k
  unfold upd part
  by_cases h : k = j
  · subst h; simp
  · rw [if_neg h]
theorem part_next (FF : Nat → Int) (n j : Nat) : tab n (upd (part FF j) j (FF j)) = tab n (part FF (j + 1)) := by rw [← tab_set]; exact part_set rfl
theorem still_num {P : Program} {f : FuncId} {args : Array Value} {w : World} {n : Int} (h : Calls P f args w (NumIs n w)) : Calls P f args w fun e w'' => e = .returned (.int .i64 n) ∧ w'' = w :=
  h.mono fun _ _ ⟨he, hw⟩ => ⟨he, hw.symm⟩

set_option maxHeartbeats 2000000 in
theorem convolve_any (A : Option Addr) (c : Nat) (xs : List Int) (A2 : Option Addr) (c2 : Nat) (ys : List Int) (n : Nat) (w : World) (h : Arg w A c xs) (h2 : Arg w A2 c2 ys) (s1 : Smp xs) (s2 : Smp ys) (hn : n ≤ 1048576) :
    Calls Try.prog 44 #[.slice A xs.length c, .slice A2 ys.length c2, .int .i64 n] w (Fresh (tab n (fun i => fIn (fun k => xs.getD k 0) (fun k => ys.getD k 0) i (min (i + 1) xs.length))) w) := by
  have AT : Hid (∀ wr, Below w.heap.size w wr → ∀ (i : Int) (k : Nat), i = k → k ≤ 1099511627776 → Calls Try.prog 63 #[.slice A2 ys.length c2, .int .i64 i] wr (NumIs (ys.getD k 0) wr)) :=
    fun wr hb i k => at_any A2 c2 ys wr (h2.below hb) i k
  have hl1 := h.len
  have S1 := Lib.hid s1
  have S2 := Lib.hid s2
  clear s1 s2
  unfold Smp at S1 S2
  obtain ⟨f, hf⟩ : ∃ f : Nat → Int, f = fun k => xs.getD k 0 := ⟨_, rfl⟩
  obtain ⟨f2, hf2⟩ : ∃ f : Nat → Int, f = fun k => ys.getD k 0 := ⟨_, rfl⟩
  have C : Hid (∀ k, k < xs.length → ∃ b o, A = some ⟨b, o, none⟩ ∧ b < w.heap.size ∧ w.cell? ⟨b, o + k, none⟩ = some (.int .i64 (f k))) := by
    intro k hk
    obtain ⟨b, o, e1, e2, e3⟩ := h.sl (by omega)
    exact ⟨b, o, e1, e2, by rw [hf]; exact e3 k hk⟩
  clear h h2
  simp only [← hf, ← congrFun hf _, ← hf2, ← congrFun hf2 _] at AT S1 S2 ⊢
  clear hf hf2
  have F0 : Hid (∀ i, fIn f f2 i 0 = 0) := fun _ => rfl
  have FStep : Hid (∀ i k, fIn f f2 i (k + 1) = wrap32 (fIn f f2 i k + f k * f2 (i - k))) := fun _ _ => rfl
  have FI : Hid (∀ i k, -2147483648 ≤ fIn f f2 i k ∧ fIn f f2 i k ≤ 2147483647) := fIn_in f f2
  generalize fIn f f2 = FN at *
  generalize xs.length = lx at *
  generalize ys.length = ly at *
  have HF : ∃ FF : Nat → Int, FF = fun i => FN i (min (i + 1) lx) := ⟨_, rfl⟩
  obtain ⟨FF, hFF⟩ := HF
  rw [← hFF]
  have HFF : Hid (∀ i, FF i = FN i (min (i + 1) lx)) := fun i => by rw [hFF]
  clear hFF
  go_enter Try.func44, Try.ntmps44
  go_wp2_with fail
  refine (zerosN_any _ n rfl _ (by omega)).mono ?_
  rintro e w1 ⟨A1, c1, rfl, hO1, hb1⟩
  have hO2 := Lib.hid hO1
  clear hO1
  go_wp2
  go_loopw [8, 9, 14] (fun _ _ i wr => ∃ (j : Nat), j ≤ n ∧ i = .int .i64 j ∧ Own wr w.heap.size w1.heap.size A1 c1 (tab n (part FF j)) ∧ Below w.heap.size w wr ∧ w1.heap.size ≤ wr.heap.size) (fun _ _ i _ => n - (intOf i).toNat)
  case atStart => exact ⟨0, by omega, rfl, by rw [← part_zero]; exact hO2.out, hb1, Nat.le_refl _⟩
  case round =>
    obtain ⟨j, hj, rfl, hown, hbr, hsz⟩ := hrel
    by_cases hlt : j < n
    · rw [part_start, ← F0.out j] at hown
      have PN := Lib.hid (part_next FF n j)
      rw [HFF.out j] at PN
      have HOWN := Lib.hid hown
      have FSJ := Lib.hid (FStep.out j)
      have FIJ := Lib.hid (FI.out j)
      clear hown
      generalize FN j = R at *
      generalize part FF j = PF at *
      go_wp2
      go_loopw [9] (fun k wq => ∃ t : Nat, t ≤ min (j + 1) lx ∧ k = .int .i64 t ∧ Own wq w.heap.size w1.heap.size A1 c1 (tab n (upd PF j (R t))) ∧ Below w.heap.size w wq ∧ w1.heap.size ≤ wq.heap.size) (fun k _ => lx - (intOf k).toNat)
      case atStart => exact ⟨0, by omega, rfl, HOWN.out, hbr, hsz⟩
      case round =>
        clear HOWN hbr hsz
        obtain ⟨t, ht, rfl, hown, hbr, hsz⟩ := hrel
        by_cases hlt2 : t < min (j + 1) lx
        · obtain ⟨b, o, rfl, hb, e0⟩ := C.out t (by omega)
          have e1 := ((bcell hbr).1 b (o + t) hb).trans e0
          clear e0
          obtain ⟨g, rfl, hlo, hhi⟩ := hown.form (by rw [tab_length]; omega)
          have c0 := hown.cell j (by rw [tab_length]; omega)
          rw [tab_getD hlt, upd_at] at c0
          have f0 := hown.notFrozen j
          have HST := Lib.hid (FSJ.out t)
          have HS := Lib.hid (hown.set j (wrap32 (R t + f t * f2 (j - t))))
          rw [tab_set, upd_upd, ← HST.out] at HS
          have AT' := Lib.hid (AT.out _ hbr.drew ((j : Int) - (t : Int)) (j - t) (by omega) (by omega))
          obtain ⟨x1, x2⟩ := FIJ.out t
          obtain ⟨y1, y2⟩ := S1.out t
          obtain ⟨z1, z2⟩ := S2.out (j - t)
          obtain ⟨r1, r2⟩ := smp_mul y1 y2 z1 z2
          clear hown
          generalize R t = x at *
          generalize f t = y at *
          generalize f2 (j - t) = z at *
          have q1 : (t : Int) ≤ (j : Int) := by omega
          have q2 : (t : Int) < (lx : Int) := by omega
          have k1 : IntKind.i64.wrap ((j : Int) - (t : Int)) = (j : Int) - (t : Int) := IntWalk.i64_in _ (by omega)
          have k5 : IntKind.i64.wrap (y * z) = y * z := IntWalk.i64_in _ (by omega)
          have k6 : IntKind.i64.wrap (x + y * z) = x + y * z := IntWalk.i64_in _ (by omega)
          have k7 : (j : Int) < (n : Int) := by omega
          go_wp2
          go_still_tail 19, (by kernel_rfl)
          still_call (still_num AT'.out)
          repeat still_step
          still_call (still_of (implWrap_any _ _))
          repeat still_step
          refine wpStill_nil ?_
          change wpList _ _ _ _ _ wr.drew
          have c0' : wr.drew.cell? ⟨g, j, none⟩ = some (.int .i64 x) := c0
          have f0' : wr.drew.frozen? ⟨g, j, none⟩ = false := f0
          have HS' : Hid (Own (wr.drew.setCell ⟨g, j, none⟩ (.int .i64 (wrap32 (x + y * z)))) w.heap.size w1.heap.size (some ⟨g, 0, none⟩) c1 (tab n (upd PF j (R (t + 1))))) := by rw [HST.out]; exact HST.out ▸ HS.out
          have hbr' : Below w.heap.size w wr.drew := hbr.drew
          have hsz' : w1.heap.size ≤ wr.drew.heap.size := hsz
          clear c0 f0 HS hbr hsz e1 k1 k5 k6 k7 AT'
          generalize wr.drew = w2 at *
          go_wp2
          go_roundw
          case rel => exact ⟨t + 1, by omega, by go_num, HS'.out, hbr'.setCell (by simp; omega) _, by simpa [World.setCell] using hsz'⟩
          case measure => first | (simp [intOf]; done) | (simp [intOf]; omega)
        · have hte : t = min (j + 1) lx := by omega
          rw [hte, PN.out] at hown
          rcases Nat.lt_or_ge t lx with hjt | hjt
          · have q2 : (t : Int) < (lx : Int) := by omega
            have q1 : ¬ (t : Int) ≤ (j : Int) := by omega
            clear hte
            go_wp2
            go_roundw
            case rel => exact ⟨j + 1, by omega, by go_num, hown, hbr, hsz⟩
            case measure => first | (simp [intOf]; done) | (simp [intOf]; omega)
          · have q2 : ¬ (t : Int) < (lx : Int) := by omega
            clear hte
            go_wp2
            go_roundw
            case rel => exact ⟨j + 1, by omega, by go_num, hown, hbr, hsz⟩
            case measure => first | (simp [intOf]; done) | (simp [intOf]; omega)
    · have hjk : j = n := by omega
      subst hjk
      go_wp2
      go_ret
      exact fresh_of (tab_length _ _).symm (by rw [← part_done (F := FF)]; exact hown.mono (Nat.le_refl _) hsz) hbr
set_option maxRecDepth 100000 in
set_option maxHeartbeats 4000000 in
theorem l05Filter_any (g0 : Nat) (A : Option Addr) (c : Nat) (xs : List Int) (B : Option Addr) (d : Nat) (ys : List Int) (A2 : Option Addr) (c2 : Nat) (zs : List Int) (w : World) (hx : Bx w g0 A xs.length c B ys.length d) (h : Arg w A c xs) (h2 : Arg w B d ys) (h3 : Arg w A2 c2 zs) :
    Calls Try.prog 42 #[.pointer (some ⟨g0, 0, none⟩), .slice A2 zs.length c2] w (Fresh (fL (fun k => xs.getD k 0) (fun k => zs.getD k 0) xs.length (fun k => ys.getD k 0) ys.length zs.length) w) := by
  have hl1 := h.len
  have hl2 := h2.len
  have hl3 := h3.len
  have BX : Hid (∀ wr, Below w.heap.size w wr → Bx wr g0 A xs.length c B ys.length d) := fun wr hb => hx.below hb hx.lt
  obtain ⟨f, hf⟩ : ∃ f : Nat → Int, f = fun k => xs.getD k 0 := ⟨_, rfl⟩
  obtain ⟨f2, hf2⟩ : ∃ f : Nat → Int, f = fun k => ys.getD k 0 := ⟨_, rfl⟩
  obtain ⟨f3, hf3⟩ : ∃ f : Nat → Int, f = fun k => zs.getD k 0 := ⟨_, rfl⟩
  have C : Hid (∀ k, k < xs.length → ∃ b o, A = some ⟨b, o, none⟩ ∧ b < w.heap.size ∧ w.cell? ⟨b, o + k, none⟩ = some (.int .i64 (f k))) := by
    intro k hk
    obtain ⟨b, o, e1, e2, e3⟩ := h.sl (by omega)
    exact ⟨b, o, e1, e2, by rw [hf]; exact e3 k hk⟩
  have C2 : Hid (∀ k, k < ys.length → ∃ b o, B = some ⟨b, o, none⟩ ∧ b < w.heap.size ∧ w.cell? ⟨b, o + k, none⟩ = some (.int .i64 (f2 k))) := by
    intro k hk
    obtain ⟨b, o, e1, e2, e3⟩ := h2.sl (by omega)
    exact ⟨b, o, e1, e2, by rw [hf2]; exact e3 k hk⟩
  have C3 : Hid (∀ k, k < zs.length → ∃ b o, A2 = some ⟨b, o, none⟩ ∧ b < w.heap.size ∧ w.cell? ⟨b, o + k, none⟩ = some (.int .i64 (f3 k))) := by
    intro k hk
    obtain ⟨b, o, e1, e2, e3⟩ := h3.sl (by omega)
    exact ⟨b, o, e1, e2, by rw [hf3]; exact e3 k hk⟩
  clear h h2 h3 hx
  rw [← hf, ← hf2, ← hf3]
  clear hf hf2 hf3
  have L0 : Hid ([] = fL f f3 xs.length f2 ys.length 0) := rfl
  have LS : Hid (∀ i, fL f f3 xs.length f2 ys.length (i + 1) = fL f f3 xs.length f2 ys.length i ++ [qIn f2 (fL f f3 xs.length f2 ys.length i) i (fIn f f3 i (min (i + 1) xs.length)) (min i (ys.length - 1))]) := fun _ => rfl
  have LL := Lib.hid (fL_length f f3 xs.length f2 ys.length)
  have F0 : Hid (∀ i, 0 = fIn f f3 i 0) := fun _ => rfl
  have FStep : Hid (∀ i k, fIn f f3 i (k + 1) = wrap32 (fIn f f3 i k + f k * f3 (i - k))) := fun _ _ => rfl
  have QS : Hid (∀ out i x k, 1 ≤ k → qIn f2 out i x k = wrap32 (qIn f2 out i x (k - 1) - f2 k * out.getD (i - k) 0)) := fun out i x k hk => qIn_step hk
  have Q0 : Hid (∀ out i x, x = qIn f2 out i x 0) := fun _ _ _ => rfl
  generalize fL f f3 xs.length f2 ys.length = FL at *
  generalize fIn f f3 = FN at *
  generalize qIn f2 = QN at *
  generalize xs.length = lx at *
  generalize ys.length = ly at *
  generalize zs.length = n at *
  go_enter Try.func42, Try.ntmps42
  go_wp2
  go_loopw [5, 6, 7, 8, 9] (fun v i _ _ _ wr => ∃ (j : Nat) (A : Option Addr) (c : Nat), j ≤ n ∧ i = .int .i64 j ∧ v = .slice A j c ∧ Own wr w.heap.size wr.heap.size A c (FL j) ∧ Below w.heap.size w wr) (fun _ i _ _ _ _ => n - (intOf i).toNat)
  case atStart => exact ⟨0, _, _, by omega, rfl, rfl, by rw [← L0.out]; exact Own.empty w, by (repeat (first | exact Below.refl _ _ | assumption | refine Below.setCell ?_ (by (try simp) <;> omega) _ | refine Below.alloc ?_ (by (try simp) <;> omega) _ | refine below_drewN_ ?_ | refine Below.drew ?_))⟩
  case round =>
    obtain ⟨j, A1, c1, hj, rfl, rfl, hown, hbr⟩ := hrel
    have hsz := hbr.size
    by_cases hlt : j < n
    · obtain ⟨W, hW⟩ : ∃ W, W = wr := ⟨_, rfl⟩
      subst hW
      have HOWN := Lib.hid hown
      have HX := Lib.hid (LS.out j)
      have LLJ := Lib.hid (LL.out j)
      have FSJ := Lib.hid (FStep.out j)
      have F0J := Lib.hid (F0.out j)
      have QSJ := Lib.hid (fun x k hk => QS.out (FL j) j x k hk)
      have Q0J := Lib.hid (fun x => Q0.out (FL j) j x)
      clear hown
      generalize FN j = R at *
      generalize QN (FL j) j = QQ at *
      go_wp2
      go_loopw [7, 8] (fun x k wq => ∃ t m : Nat, t ≤ min (j + 1) lx ∧ k = .int .i64 t ∧ x = .int .i64 (R t) ∧ wq = W.drewN m) (fun _ k _ => lx - (intOf k).toNat)
      case atStart => exact ⟨0, 0, by omega, rfl, by rw [← F0J.out], rfl⟩
      case round =>
        obtain ⟨t, m, ht2, rfl, rfl, hwr⟩ := hrel
        have HW := Lib.hid hwr
        have hcw : ∀ p, wr.cell? p = W.cell? p := fun p => by rw [hwr]; rfl
        have HCW := Lib.hid hcw
        clear hwr hcw
        obtain ⟨e0, e1⟩ := BX.out _ hbr
        rw [← HCW.out] at e0 e1
        by_cases hlt2 : t < min (j + 1) lx
        · obtain ⟨b, o, rfl, hb, k0⟩ := C.out t (by omega)
          have e2 := ((bcell hbr).1 b (o + t) hb).trans k0
          rw [← HCW.out] at e2
          obtain ⟨b3, o3, rfl, hb3, k3⟩ := C3.out (j - t) (by omega)
          have e3 := ((bcell hbr).1 b3 (o3 + (j - t)) hb3).trans k3
          rw [← HCW.out] at e3
          clear k0 k3
          have HST := Lib.hid (FSJ.out t)
          generalize f3 (j - t) = z at *
          generalize f t = y at *
          generalize R t = x at *
          have q1 : (t : Int) ≤ (j : Int) := by omega
          have q2 : (t : Int) < (lx : Int) := by omega
          have k1 : IntKind.i64.wrap ((j : Int) - (t : Int)) = (j : Int) - (t : Int) := IntWalk.i64_in _ (by omega)
          have k2 : (0 : Int) ≤ (j : Int) - (t : Int) := by omega
          have k3 : ((j : Int) - (t : Int)).toNat = j - t := by omega
          have k4 : (j : Int) - (t : Int) < (n : Int) := by omega
          go_wp2
          go_quiet ((first | (go_at_call 59; exact quiet_eq (specMul_any _ _ _)) | (go_at_call 65; exact quiet_eq (specAdd_any _ _ _))))
          clear k1 k2 k3 k4
          go_wp2
          go_roundw
          case rel => exact ⟨t + 1, _, by omega, by go_num, by rw [HST.out, wrap32_addr], by first | (rw [HW.out]; done) | (rw [HW.out]; rfl) | (rw [HW.out]; exact World.drewN_drewN ..)⟩
          case measure => first | (simp [intOf]; done) | (simp [intOf]; omega)
        · have HTE := Lib.hid (show R t = R (min (j + 1) lx) by rw [show t = min (j + 1) lx by omega])
          have hown1 : Own wr w.heap.size wr.heap.size A1 c1 (FL j) := by rw [HW.out]; exact HOWN.out.drewN m
          have hbr1 : Below w.heap.size w wr := by rw [HW.out]; exact below_drewN_ hbr
          clear HOWN HW HCW hbr hsz
          have HOWN := Lib.hid hown1
          clear hown1
          obtain ⟨W2, hW2⟩ : ∃ W, W = wr := ⟨_, rfl⟩
          subst hW2
          generalize R t = x0 at *
          have hw2 : (¬ (t : Int) ≤ (j : Int)) ∨ ((t : Int) ≤ (j : Int) ∧ ¬ (t : Int) < (lx : Int)) := by omega
          rcases hw2 with q1 | ⟨q1, q2⟩
          all_goals
            go_wp2
            go_loopw [7, 9] (fun x k wq => ∃ s m : Nat, 1 ≤ s ∧ s ≤ min j (ly - 1) + 1 ∧ k = .int .i64 s ∧ x = .int .i64 (QQ x0 (s - 1)) ∧ wq = W2.drewN m) (fun _ k _ => ly - (intOf k).toNat)
            case atStart => exact ⟨1, 0, by omega, by omega, rfl, by rw [← Q0J.out], rfl⟩
            case round =>
              clear e0 e1
              obtain ⟨s, m2, hs1, hs2, rfl, rfl, hwr⟩ := hrel
              have HW := Lib.hid hwr
              have hcw : ∀ p, wr.cell? p = W2.cell? p := fun p => by rw [hwr]; rfl
              have HCW := Lib.hid hcw
              clear hwr hcw
              obtain ⟨e0, e1⟩ := BX.out _ hbr1
              rw [← HCW.out] at e0 e1
              by_cases hlt3 : s ≤ min j (ly - 1)
              · obtain ⟨b, o, rfl, hb, k0⟩ := C2.out s (by omega)
                have e2 := ((bcell hbr1).1 b (o + s) hb).trans k0
                rw [← HCW.out] at e2
                clear k0
                obtain ⟨g, rfl, hlo, hhi⟩ := HOWN.out.form (by rw [LLJ.out]; omega)
                have c0 := HOWN.out.cell (j - s) (by rw [LLJ.out]; omega)
                rw [← HCW.out] at c0
                have HST := Lib.hid (QSJ.out x0 s hs1)
                generalize (FL j).getD (j - s) 0 = z at *
                generalize f2 s = y at *
                generalize QQ x0 (s - 1) = x at *
                have p1 : (s : Int) ≤ (j : Int) := by omega
                have p2 : (s : Int) < (ly : Int) := by omega
                have k1 : IntKind.i64.wrap ((j : Int) - (s : Int)) = (j : Int) - (s : Int) := IntWalk.i64_in _ (by omega)
                have k2 : (0 : Int) ≤ (j : Int) - (s : Int) := by omega
                have k3 : ((j : Int) - (s : Int)).toNat = j - s := by omega
                have k4 : (j : Int) - (s : Int) < (j : Int) := by omega
                go_wp2
                go_quiet ((first | (go_at_call 59; exact quiet_eq (specMul_any _ _ _)) | (go_at_call 58; exact quiet_eq (specSub_any _ _ _))))
                clear k1 k2 k3 k4
                go_wp2
                go_roundw
                case rel => exact ⟨s + 1, _, by omega, by omega, by go_num, by rw [show s + 1 - 1 = s by omega, HST.out, wrap32_subr], by first | (rw [HW.out]; done) | (rw [HW.out]; rfl) | (rw [HW.out]; exact World.drewN_drewN ..)⟩
                case measure => first | (simp [intOf]; done) | (simp [intOf]; omega)
              · have HR := Lib.hid (show QQ x0 (s - 1) = QQ x0 (min j (ly - 1)) by rw [show s - 1 = min j (ly - 1) by omega])
                have hown2 : Own wr w.heap.size wr.heap.size A1 c1 (FL j) := by rw [HW.out]; exact HOWN.out.drewN m2
                have hbr2 : Below w.heap.size w wr := by rw [HW.out]; exact below_drewN_ hbr1
                have hsz2 := hbr2.size
                clear HW HCW
                generalize QQ x0 (s - 1) = v at *
                have hw3 : (¬ (s : Int) ≤ (j : Int)) ∨ ((s : Int) ≤ (j : Int) ∧ ¬ (s : Int) < (ly : Int)) := by omega
                rcases hw3 with p1 | ⟨p1, p2⟩
                all_goals
                  go_wp2_with (at_builtin; refine wl_app1 rfl (.tmp 77) (.tmp 79) rfl A1 c1 _ v _ rfl hown2 ?c1 rfl ?c2 hsz2 ?_)
                  case c1 => rw [LLJ.out]
                  case c2 => omega
                  intro A' c' w' hown3 hb'
                  go_wp2
                  go_roundw
                  case rel => exact ⟨j + 1, A', c', by omega, by go_num, rfl, by rw [HX.out, ← HTE.out, ← HR.out]; exact hown3, hbr2.trans hb'⟩
                  case measure => first | (simp [intOf]; done) | (simp [intOf]; omega)
    · have hjk : j = n := by omega
      subst hjk
      go_wp2
      go_ret
      exact fresh_of (LL.out j).symm hown hbr
def filterOf (xs ys zs : List Int) : List Int × Int := if trB xs ys && sigB zs then (fL (fun k => xs.getD k 0) (fun k => zs.getD k 0) xs.length (fun k => ys.getD k 0) ys.length zs.length, 0) else ([], 1)
theorem filterOf_no {xs ys zs : List Int} (h : trB xs ys = false ∨ sigB zs = false) : ([], 1) = filterOf xs ys zs := by
  unfold filterOf
  rcases h with h | h <;> simp [h]
theorem filterOf_yes {xs ys zs : List Int} (h : trB xs ys = true) (h' : sigB zs = true) : (fL (fun k => xs.getD k 0) (fun k => zs.getD k 0) xs.length (fun k => ys.getD k 0) ys.length zs.length, 0) = filterOf xs ys zs := by simp [filterOf, h, h']
theorem filterOf_yes' {xs ys zs : List Int} (h : trB xs ys = true) (h' : sigB zs = true) :
    (qL (fun k => (tab zs.length (fun i => fIn (fun k => xs.getD k 0) (fun k => zs.getD k 0) i (min (i + 1) xs.length))).getD k 0) (fun k => ys.getD k 0) ys.length (invN (ys.getD 0 0) 5) zs.length, 0) = filterOf xs ys zs := by
  rw [(trB_inv h).2.2, inv_one, filter_eq]
  exact filterOf_yes h h'
set_option maxHeartbeats 1000000 in
theorem specFilterSignal_any (A : Option Addr) (c : Nat) (xs : List Int) (B : Option Addr) (d : Nat) (ys : List Int) (A2 : Option Addr) (c2 : Nat) (zs : List Int) (w : World) (h : Arg w A c xs) (h2 : Arg w B d ys) (h3 : Arg w A2 c2 zs) :
    Calls Try.prog 20 #[.agg #[.slice A xs.length c, .slice B ys.length d], .slice A2 zs.length c2] w (IntsIs (filterOf xs ys zs) w) := by
  have hb0 : Below w.heap.size w (w.alloc (.cells #[.slice A xs.length c, .slice B ys.length d] 27)) := by (repeat (first | exact Below.refl _ _ | assumption | refine Below.setCell ?_ (by (try simp) <;> omega) _ | refine Below.alloc ?_ (by (try simp) <;> omega) _ | refine below_drewN_ ?_ | refine Below.drew ?_))
  have HA := Lib.hid (l05Ok_any w.heap.size A c xs B d ys _ (Bx.new w A xs.length c B ys.length d 27) (h.alloc _) (h2.alloc _))
  have HB := Lib.hid (l03Ok_any A2 c2 zs _ _ (h3.below hb0).sl (by have := h3.len; omega))
  have HF := Lib.hid (l05Filter_any w.heap.size A c xs B d ys A2 c2 zs _ (Bx.new w A xs.length c B ys.length d 27) (h.alloc _) (h2.alloc _) (h3.alloc _))
  have hl3 := h3.len
  cases hs : trB xs ys
  · have HR := Lib.hid (filterOf_no (zs := zs) (.inl hs))
    rw [hs] at HA
    clear hs h h2 h3 HB HF
    generalize filterOf xs ys zs = r at *
    generalize xs.length = m at *
    generalize ys.length = m2 at *
    generalize zs.length = m3 at *
    go_enter Try.func20, Try.ntmps20
    go_wp2_with fail
    refine HA.out.mono ?_
    rintro e w' ⟨rfl, rfl⟩
    go_wp2
    go_ret2
    exact IntsIs.nil_ HR.out hb0
  rw [hs] at HA
  cases hs3 : sigB zs
  · have HR := Lib.hid (filterOf_no (xs := xs) (ys := ys) (.inr hs3))
    rw [hs3] at HB
    clear hs hs3 h h2 h3 HF
    generalize filterOf xs ys zs = r at *
    generalize xs.length = m at *
    generalize ys.length = m2 at *
    generalize zs.length = m3 at *
    go_enter Try.func20, Try.ntmps20
    go_wp2_with fail
    refine HA.out.mono ?_
    rintro e w' ⟨rfl, rfl⟩
    go_wp2_with fail
    refine HB.out.mono ?_
    rintro e w' ⟨rfl, rfl⟩
    go_wp2
    go_ret2
    exact IntsIs.nil_ HR.out hb0
  · rw [hs3] at HB
    have HR := Lib.hid (filterOf_yes hs hs3)
    have HL := Lib.hid (fL_length (fun k => xs.getD k 0) (fun k => zs.getD k 0) xs.length (fun k => ys.getD k 0) ys.length zs.length)
    clear hs hs3 h h2 h3
    generalize filterOf xs ys zs = r at *
    generalize fL (fun k => xs.getD k 0) (fun k => zs.getD k 0) xs.length (fun k => ys.getD k 0) ys.length zs.length = q at *
    generalize xs.length = m at *
    generalize ys.length = m2 at *
    generalize zs.length = m3 at *
    go_enter Try.func20, Try.ntmps20
    go_wp2_with fail
    refine HA.out.mono ?_
    rintro e w' ⟨rfl, rfl⟩
    go_wp2_with fail
    refine HB.out.mono ?_
    rintro e w' ⟨rfl, rfl⟩
    go_wp2_with fail
    refine HF.out.mono ?_
    rintro e w1 ⟨A', c', rfl, hO, hb⟩
    go_wp2
    go_ret2
    exact IntsIs.mk HR.out rfl (by rw [HL.out]; omega) (hO.mono (by simp) (Nat.le_refl _)) (nxt hb0 hb (by simp))

end Go.Proofs.Ytfgdkecmhgkpfaa
