/- Walks: ScaleSignal, EvalPoly. -/
import Derived.Test.YtajjmfijmjlacaaVl
namespace Go.Proofs.Ytajjmfijmjlacaa
open Go.RowKit
set_option linter.unusedVariables false
set_option linter.unusedSimpArgs false

theorem i64_none : ∀ x ∈ ([] : List Int), I64 x := fun x h => by simp at h
theorem Own.argOf {w : World} {lo : Nat} {A : Option Addr} {c : Nat} {xs : List Int} (h : Own w lo w.heap.size A c xs) (hl : xs.length ≤ 1048576) (hx : ∀ x ∈ xs, -2147483648 ≤ x ∧ x ≤ 2147483647) : Arg w A c xs :=
  h.arg (Nat.le_refl _) (by omega) (fun x hxm => ⟨by have := hx x hxm; omega, by have := hx x hxm; omega⟩)
theorem in_none : ∀ x ∈ ([] : List Int), -2147483648 ≤ x ∧ x ≤ 2147483647 := fun x h => by simp at h
theorem in_zeros (n : Nat) : ∀ x ∈ List.replicate n (0 : Int), -2147483648 ≤ x ∧ x ≤ 2147483647 := fun x h => by
  have := List.eq_of_mem_replicate h
  omega

set_option maxHeartbeats 1000000 in
theorem specScaleSignal_no (A : Option Addr) (c : Nat) (xs : List Int) (g : Int) (w : World) (h : Arg w A c xs) (hs : sigB xs = false) :
    Calls Try.prog 39 #[.slice A xs.length c, .int .i64 g] w (IntsIs (scaleOf xs g) w) := by
  have HA := Lib.hid (l03Ok_any A c xs w _ h.sl (by have := h.len; omega))
  have HR := Lib.hid (scaleOf_no (g := g) hs)
  rw [hs] at HA
  clear hs h
  generalize scaleOf xs g = r at *
  generalize xs.length = m at *
  go_enter Try.func39, Try.ntmps39
  go_wp2_with fail
  refine HA.out.mono ?_
  rintro e w' ⟨rfl, rfl⟩
  go_wp2
  go_ret2
  exact IntsIs.nil_ HR.out (Below.refl _ _)
set_option maxHeartbeats 1000000 in
theorem specScaleSignal_off (A : Option Addr) (c : Nat) (xs : List Int) (g : Int) (w : World) (h : Arg w A c xs) (hs : sigB xs = true) (g1 : inB (-2147483648) 2147483647 g = false) :
    Calls Try.prog 39 #[.slice A xs.length c, .int .i64 g] w (IntsIs (scaleOf xs g) w) := by
  have HA := Lib.hid (l03Ok_any A c xs w _ h.sl (by have := h.len; omega))
  have HR := Lib.hid (scaleOf_off hs g1)
  have G1 := Lib.hid g1
  rw [hs] at HA
  clear hs h g1
  generalize scaleOf xs g = r at *
  generalize xs.length = m at *
  go_enter Try.func39, Try.ntmps39
  go_wp2_with fail
  refine HA.out.mono ?_
  rintro e w' ⟨rfl, rfl⟩
  go_wp2_with fail
  refine (l01Sample_any _ _).mono ?_
  rw [G1.out]
  rintro e w' ⟨rfl, rfl⟩
  go_wp2
  go_ret2
  exact IntsIs.nil_ HR.out (Below.refl _ _)
set_option maxHeartbeats 1000000 in
theorem implScaleSignal_no (A : Option Addr) (c : Nat) (xs : List Int) (g : Int) (w : World) (h : Arg w A c xs) (hs : sigB xs = false) :
    Calls Try.prog 40 #[.slice A xs.length c, .int .i64 g] w (IntsIs (scaleOf xs g) w) := by
  have HA := Lib.hid (isSignal_any A c xs w _ h.sl (by have := h.len; omega))
  have HR := Lib.hid (scaleOf_no (g := g) hs)
  rw [hs] at HA
  clear hs h
  generalize scaleOf xs g = r at *
  generalize xs.length = m at *
  go_enter Try.func40, Try.ntmps40
  go_wp2_with fail
  refine HA.out.mono ?_
  rintro e w' ⟨rfl, rfl⟩
  go_wp2
  go_ret2
  exact IntsIs.nil_ HR.out (Below.refl _ _)
set_option maxHeartbeats 1000000 in
theorem implScaleSignal_off (A : Option Addr) (c : Nat) (xs : List Int) (g : Int) (w : World) (h : Arg w A c xs) (hs : sigB xs = true) (g1 : inB (-2147483648) 2147483647 g = false) :
    Calls Try.prog 40 #[.slice A xs.length c, .int .i64 g] w (IntsIs (scaleOf xs g) w) := by
  have HA := Lib.hid (isSignal_any A c xs w _ h.sl (by have := h.len; omega))
  have HR := Lib.hid (scaleOf_off hs g1)
  have G1 := Lib.hid g1
  rw [hs] at HA
  clear hs h g1
  generalize scaleOf xs g = r at *
  generalize xs.length = m at *
  go_enter Try.func40, Try.ntmps40
  go_wp2_with fail
  refine HA.out.mono ?_
  rintro e w' ⟨rfl, rfl⟩
  go_wp2_with fail
  refine (isSample_any _ _).mono ?_
  rw [G1.out]
  rintro e w' ⟨rfl, rfl⟩
  go_wp2
  go_ret2
  exact IntsIs.nil_ HR.out (Below.refl _ _)
set_option maxHeartbeats 1000000 in
theorem specScaleSignal_any (A : Option Addr) (c : Nat) (xs : List Int) (g : Int) (w : World) (h : Arg w A c xs) (hg : I64 g) :
    Calls Try.prog 39 #[.slice A xs.length c, .int .i64 g] w (IntsIs (scaleOf xs g) w) := by
  cases hs : sigB xs
  · exact specScaleSignal_no A c xs g w h hs
  cases g1 : inB (-2147483648) 2147483647 g
  · exact specScaleSignal_off A c xs g w h hs g1
  have HA := Lib.hid (l03Ok_any A c xs w _ h.sl (by have := h.len; omega))
  rw [hs] at HA
  have HR := Lib.hid (scaleOf_yes hs g1)
  have G1 := Lib.hid g1
  have hb0 : Below w.heap.size w (w.alloc (.cells #[] 2)) := by (repeat (first | exact Below.refl _ _ | assumption | refine Below.setCell ?_ (by (try simp) <;> omega) _ | refine Below.alloc ?_ (by (try simp) <;> omega) _ | refine below_drewN_ ?_ | refine Below.drew ?_))
  have HS := Lib.hid (l03Add_any (some ⟨w.heap.size, 0, none⟩) 0 [] A c xs g (w.alloc (.cells #[] 2)) ((Own.empty w).argOf (by simp) in_none) (h.below hb0))
  have HL : Hid ((addT [] g xs).length ≤ 4000) := by
    rw [addT_length]
    have h1 := (sigB_inv hs).1
    show max 0 _ ≤ _
    omega
  clear hs h g1
  generalize scaleOf xs g = r at *
  generalize addT [] g xs = q at *
  generalize xs.length = m at *
  go_enter Try.func39, Try.ntmps39
  go_wp2_with fail
  refine HA.out.mono ?_
  rintro e w' ⟨rfl, rfl⟩
  go_wp2_with fail
  refine (l01Sample_any _ _).mono ?_
  rw [G1.out]
  rintro e w' ⟨rfl, rfl⟩
  go_wp2_with fail
  refine HS.out.mono ?_
  rintro e w1 ⟨A', c', rfl, hO, hb⟩
  go_wp2
  go_ret2
  exact IntsIs.mk HR.out rfl (by have := HL.out; omega) (hO.mono (by simp) (Nat.le_refl _)) (nxt hb0 hb (by simp))
set_option maxHeartbeats 1000000 in
theorem implScaleSignal_any (A : Option Addr) (c : Nat) (xs : List Int) (g : Int) (w : World) (h : Arg w A c xs) (hg : I64 g) :
    Calls Try.prog 40 #[.slice A xs.length c, .int .i64 g] w (IntsIs (scaleOf xs g) w) := by
  cases hs : sigB xs
  · exact implScaleSignal_no A c xs g w h hs
  cases g1 : inB (-2147483648) 2147483647 g
  · exact implScaleSignal_off A c xs g w h hs g1
  have HA := Lib.hid (isSignal_any A c xs w _ h.sl (by have := h.len; omega))
  rw [hs] at HA
  have HR := Lib.hid (scaleOf_yes' hs g1)
  have G1 := Lib.hid g1
  obtain ⟨g2, g3⟩ := inB_true.1 g1
  have HL : Hid ((addT (List.replicate xs.length 0) g xs).length ≤ 4000) := by
    rw [addT_length, List.length_replicate]
    have h1 := (sigB_inv hs).1
    show max _ _ ≤ _
    omega
  have hm : xs.length ≤ 4000 := (sigB_inv hs).1
  have HS : Hid (∀ w1 A1 c1, Below w.heap.size w w1 → Own w1 w.heap.size w1.heap.size A1 c1 (List.replicate xs.length 0) → Calls Try.prog 72 #[.slice A1 xs.length c1, .int .i64 g, .slice A xs.length c] w1 (Fresh (addT (List.replicate xs.length 0) g xs) w1)) := by
    intro w1 A1 c1 hb hO
    have := addTimes_any A1 c1 (List.replicate xs.length 0) A c xs g w1 (hO.argOf (by rw [List.length_replicate]; omega) (in_zeros _)) (h.below hb) (Smp.all (in_zeros _)) (.of (sigB_inv hs).2) g2 g3
    rwa [List.length_replicate] at this
  clear hs h g1
  generalize scaleOf xs g = r at *
  generalize addT (List.replicate xs.length 0) g xs = q at *
  generalize xs.length = m at *
  go_enter Try.func40, Try.ntmps40
  go_wp2_with fail
  refine HA.out.mono ?_
  rintro e w' ⟨rfl, rfl⟩
  go_wp2_with fail
  refine (isSample_any _ _).mono ?_
  rw [G1.out]
  rintro e w' ⟨rfl, rfl⟩
  go_wp2_with fail
  refine (size_any _ _ _ _).mono ?_
  rintro e w1 ⟨rfl, rfl⟩
  go_wp2_with fail
  refine (zerosN_any _ m rfl _ (by omega)).mono ?_
  rintro e w1 ⟨A1, c1, rfl, hO1, hb1⟩
  have hsz := hb1.size
  go_wp2_with fail
  refine (HS.out _ _ _ hb1 hO1).mono ?_
  rintro e w2 ⟨A', c', rfl, hO, hb⟩
  go_wp2
  go_ret2
  exact IntsIs.mk HR.out rfl (by have := HL.out; omega) (hO.mono hsz (Nat.le_refl _)) (nxt hb1 hb hsz)

def evalOf (xs : List Int) (x : Int) : Int × Int := if polB xs then if inB (-2147483648) 2147483647 x then (evN (fun k => xs.getD k 0) xs.length x xs.length, 0) else (0, 2) else (0, 1)
theorem evalOf_no {xs : List Int} {x : Int} (h : polB xs = false) : (0, 1) = evalOf xs x := by simp [evalOf, h]
theorem evalOf_off {xs : List Int} {x : Int} (h : polB xs = true) (h' : inB (-2147483648) 2147483647 x = false) : (0, 2) = evalOf xs x := by simp [evalOf, h, h']
theorem evalOf_yes {xs : List Int} {x v : Int} (h : polB xs = true) (h' : inB (-2147483648) 2147483647 x = true) (hv : v = evN (fun k => xs.getD k 0) xs.length x xs.length) : (v, 0) = evalOf xs x := by simp [evalOf, h, h', hv]

set_option maxHeartbeats 1000000 in
theorem specEvalPoly_any (A : Option Addr) (c : Nat) (xs : List Int) (x : Int) (w : World) (h : Arg w A c xs) (hx : I64 x) :
    Calls Try.prog 25 #[.slice A xs.length c, .int .i64 x] w (IIIs (evalOf xs x) w) := by
  have HA := Lib.hid (l04Ok_any A c xs w _ h.sl (by have := h.len; omega))
  have HS := Lib.hid h.sl
  clear h
  cases hs : polB xs
  · have HR := Lib.hid (evalOf_no (x := x) hs)
    rw [hs] at HA
    clear hs HS
    generalize evalOf xs x = r at *
    generalize xs.length = m at *
    go_enter Try.func25, Try.ntmps25
    go_wp2_with fail
    refine HA.out.mono ?_
    rintro e w' ⟨rfl, rfl⟩
    go_wp2
    go_ret2
    exact ⟨_, _, rfl, HR.out, Below.refl _ _⟩
  rw [hs] at HA
  cases g1 : inB (-2147483648) 2147483647 x
  · have HR := Lib.hid (evalOf_off hs g1)
    have G1 := Lib.hid g1
    clear hs HS g1
    generalize evalOf xs x = r at *
    generalize xs.length = m at *
    go_enter Try.func25, Try.ntmps25
    go_wp2_with fail
    refine HA.out.mono ?_
    rintro e w' ⟨rfl, rfl⟩
    go_wp2_with fail
    refine (l01Sample_any _ _).mono ?_
    rw [G1.out]
    rintro e w' ⟨rfl, rfl⟩
    go_wp2
    go_ret2
    exact ⟨_, _, rfl, HR.out, Below.refl _ _⟩
  have HR : Hid (∀ v, v = evN (fun k => xs.getD k 0) xs.length x xs.length → (v, 0) = evalOf xs x) := fun v => evalOf_yes hs g1
  have G1 := Lib.hid g1
  obtain ⟨x1, x2⟩ := inB_true.1 g1
  obtain ⟨hl1, hl2, hsm, -⟩ := polB_inv hs
  have HF : Hid (∀ k, -2147483648 ≤ xs.getD k 0 ∧ xs.getD k 0 ≤ 2147483647) := fun k => sgetD hsm
  clear hs g1 hsm
  generalize evalOf xs x = r at *
  obtain ⟨f, hf⟩ : ∃ f : Nat → Int, f = fun k => xs.getD k 0 := ⟨_, rfl⟩
  have HC : Hid (∀ k, k < xs.length → ∃ b o, A = some ⟨b, o, none⟩ ∧ w.cell? ⟨b, o + k, none⟩ = some (.int .i64 (f k))) := by
    intro k hk
    obtain ⟨b, o, h1, _, h2⟩ := HS.out (by omega)
    exact ⟨b, o, h1, by rw [hf]; exact h2 k hk⟩
  simp only [← hf, ← congrFun hf _] at HR HF
  clear hf HS
  have HE := Lib.hid (evN_in f xs.length x)
  generalize xs.length = n at *
  go_enter Try.func25, Try.ntmps25
  go_wp2_with fail
  refine HA.out.mono ?_
  rintro e w' ⟨rfl, rfl⟩
  go_wp2_with fail
  refine (l01Sample_any _ _).mono ?_
  rw [G1.out]
  rintro e w' ⟨rfl, rfl⟩
  go_wp2
  go_loopw [6, 7] (fun s i wr => ∃ j m : Nat, j ≤ n ∧ i = .int .i64 ((n : Int) - 1 - j) ∧ s = .int .i64 (evN f n x j) ∧ wr = w.drewN m) (fun _ i _ => (intOf i + 1).toNat)
  case atStart => exact ⟨0, 0, by omega, by go_num, rfl, rfl⟩
  case round =>
    obtain ⟨j, m, hj, rfl, rfl, hwr⟩ := hrel
    have HW := Lib.hid hwr
    have hcw : ∀ p, wr.cell? p = w.cell? p := fun p => by rw [hwr]; rfl
    have HCW := Lib.hid hcw
    clear hwr hcw
    by_cases hlt : j < n
    · obtain ⟨b, o, rfl, e1⟩ := HC.out (n - 1 - j) (by omega)
      rw [← HCW.out] at e1
      obtain ⟨p1, p2⟩ := HE.out j
      obtain ⟨q1, q2⟩ := HF.out (n - 1 - j)
      have HST : Hid (evN f n x (j + 1) = wrap32 (evN f n x j * x + f (n - 1 - j))) := rfl
      generalize evN f n x j = p at *
      generalize f (n - 1 - j) = y at *
      obtain ⟨r1, r2⟩ := smp_mul p1 p2 x1 x2
      go_wp2; go_quiet ((first | (go_at_call 56; exact quiet_eq (specMul_any _ _ _)) | (go_at_call 55; exact quiet_eq (specAdd_any _ _ _)))); go_wp2
      go_roundw
      case rel => exact ⟨j + 1, _, by omega, by go_num, by first | (rw [HST.out]; done) | (rw [HST.out, wrap32_addl]; done) | (rw [HST.out]; rfl), by first | (rw [HW.out]; done) | (rw [HW.out]; rfl) | (rw [HW.out]; exact World.drewN_drewN ..)⟩
      case measure => simp [intOf]; omega
    · have hkn : j = n := by omega
      have HK := Lib.hid hkn
      clear hkn
      go_wp2
      go_ret2
      exact ⟨_, _, rfl, HR.out _ (by rw [HK.out]), by rw [HW.out]; exact below_of_drewN w m⟩
set_option maxHeartbeats 1000000 in
theorem implEvalPoly_any (A : Option Addr) (c : Nat) (xs : List Int) (x : Int) (w : World) (h : Arg w A c xs) (hx : I64 x) :
    Calls Try.prog 26 #[.slice A xs.length c, .int .i64 x] w (IIIs (evalOf xs x) w) := by
  have HA := Lib.hid (isPoly_any A c xs w _ h.sl (by have := h.len; omega))
  have HS := Lib.hid h.sl
  clear h
  cases hs : polB xs
  · have HR := Lib.hid (evalOf_no (x := x) hs)
    rw [hs] at HA
    clear hs HS
    generalize evalOf xs x = r at *
    generalize xs.length = m at *
    go_enter Try.func26, Try.ntmps26
    go_wp2_with fail
    refine HA.out.mono ?_
    rintro e w' ⟨rfl, rfl⟩
    go_wp2
    go_ret2
    exact ⟨_, _, rfl, HR.out, Below.refl _ _⟩
  rw [hs] at HA
  cases g1 : inB (-2147483648) 2147483647 x
  · have HR := Lib.hid (evalOf_off hs g1)
    have G1 := Lib.hid g1
    clear hs HS g1
    generalize evalOf xs x = r at *
    generalize xs.length = m at *
    go_enter Try.func26, Try.ntmps26
    go_wp2_with fail
    refine HA.out.mono ?_
    rintro e w' ⟨rfl, rfl⟩
    go_wp2_with fail
    refine (isSample_any _ _).mono ?_
    rw [G1.out]
    rintro e w' ⟨rfl, rfl⟩
    go_wp2
    go_ret2
    exact ⟨_, _, rfl, HR.out, Below.refl _ _⟩
  have HR : Hid (∀ v, v = evN (fun k => xs.getD k 0) xs.length x xs.length → (v, 0) = evalOf xs x) := fun v => evalOf_yes hs g1
  have G1 := Lib.hid g1
  obtain ⟨x1, x2⟩ := inB_true.1 g1
  obtain ⟨hl1, hl2, hsm, -⟩ := polB_inv hs
  have HF : Hid (∀ k, -2147483648 ≤ xs.getD k 0 ∧ xs.getD k 0 ≤ 2147483647) := fun k => sgetD hsm
  clear hs g1 hsm
  generalize evalOf xs x = r at *
  obtain ⟨f, hf⟩ : ∃ f : Nat → Int, f = fun k => xs.getD k 0 := ⟨_, rfl⟩
  have HC : Hid (∀ k, k < xs.length → ∃ b o, A = some ⟨b, o, none⟩ ∧ w.cell? ⟨b, o + k, none⟩ = some (.int .i64 (f k))) := by
    intro k hk
    obtain ⟨b, o, h1, _, h2⟩ := HS.out (by omega)
    exact ⟨b, o, h1, by rw [hf]; exact h2 k hk⟩
  simp only [← hf, ← congrFun hf _] at HR HF
  clear hf HS
  have HE := Lib.hid (evN_in f xs.length x)
  generalize xs.length = n at *
  go_enter Try.func26, Try.ntmps26
  go_wp2_with fail
  refine HA.out.mono ?_
  rintro e w' ⟨rfl, rfl⟩
  go_wp2_with fail
  refine (isSample_any _ _).mono ?_
  rw [G1.out]
  rintro e w' ⟨rfl, rfl⟩
  go_wp2
  go_loopw [6, 7] (fun s i wr => ∃ j m : Nat, j ≤ n ∧ i = .int .i64 ((n : Int) - 1 - j) ∧ s = .int .i64 (evN f n x j) ∧ wr = w.drewN m) (fun _ i _ => (intOf i + 1).toNat)
  case atStart => exact ⟨0, 0, by omega, by go_num, rfl, rfl⟩
  case round =>
    obtain ⟨j, m, hj, rfl, rfl, hwr⟩ := hrel
    have HW := Lib.hid hwr
    have hcw : ∀ p, wr.cell? p = w.cell? p := fun p => by rw [hwr]; rfl
    have HCW := Lib.hid hcw
    clear hwr hcw
    by_cases hlt : j < n
    · obtain ⟨b, o, rfl, e1⟩ := HC.out (n - 1 - j) (by omega)
      rw [← HCW.out] at e1
      obtain ⟨p1, p2⟩ := HE.out j
      obtain ⟨q1, q2⟩ := HF.out (n - 1 - j)
      have HST : Hid (evN f n x (j + 1) = wrap32 (evN f n x j * x + f (n - 1 - j))) := rfl
      generalize evN f n x j = p at *
      generalize f (n - 1 - j) = y at *
      obtain ⟨r1, r2⟩ := smp_mul p1 p2 x1 x2
      go_wp2_with (go_at_call 58; refine (implWrap_any _ _).mono ?_; rintro e w' ⟨rfl, rfl⟩)
      go_roundw
      case rel => exact ⟨j + 1, _, by omega, by go_num, by first | (rw [HST.out]; done) | (rw [HST.out, wrap32_addl]; done) | (rw [HST.out]; rfl), by first | (rw [HW.out]; done) | (rw [HW.out]; rfl) | (rw [HW.out]; exact World.drewN_drewN ..)⟩
      case measure => simp [intOf]; omega
    · have hkn : j = n := by omega
      have HK := Lib.hid hkn
      clear hkn
      go_wp2
      go_ret2
      exact ⟨_, _, rfl, HR.out _ (by rw [HK.out]), by rw [HW.out]; exact below_of_drewN w m⟩

end Go.Proofs.Ytajjmfijmjlacaa
