/- Walks: PowPoly. -/
import Derived.Test.YtppfcmhbbjgkfaaVo
namespace Go.Proofs.Ytppfcmhbbjgkfaa
open Go.RowKit
set_option linter.unusedVariables false
set_option linter.unusedSimpArgs false

/-- A power by repeated products. -/
def powR (p : List Int) : Nat → List Int → List Int × Int
  | 0, out => (out, 0)
  | n + 1, out => if 65 < (mulL out p).length then ([], 5) else powR p n (mulL out p)
theorem powR_big {p out : List Int} {n : Nat} (hn : 0 < n) (h : 65 < (mulL out p).length) : ([], 5) = powR p n out := by
  obtain ⟨m, rfl⟩ : ∃ m, n = m + 1 := ⟨n - 1, by omega⟩
  exact (if_pos h).symm
theorem powR_ok {p out : List Int} {n : Nat} (hn : 0 < n) (h : ¬ 65 < (mulL out p).length) : powR p (n - 1) (mulL out p) = powR p n out := by
  obtain ⟨m, rfl⟩ : ∃ m, n = m + 1 := ⟨n - 1, by omega⟩
  exact (if_neg h).symm
def powOf (xs : List Int) (n : Int) : List Int × Int := if polB xs then if inB 0 64 n then powR xs n.toNat [1] else ([], 2) else ([], 1)
theorem powOf_no {xs : List Int} {n : Int} (h : polB xs = false) : ([], 1) = powOf xs n := by simp [powOf, h]
theorem powOf_off {xs : List Int} {n : Int} (h : polB xs = true) (h' : inB 0 64 n = false) : ([], 2) = powOf xs n := by simp [powOf, h, h']
theorem powOf_yes {xs : List Int} {n : Nat} (h : polB xs = true) (h' : inB 0 64 (n : Int) = true) : powR xs n [1] = powOf xs n := by simp [powOf, h, h']
theorem nat_of_64 {n : Int} (h : inB 0 64 n = true) : ∃ k : Nat, n = k ∧ k ≤ 64 := by
  obtain ⟨h1, h2⟩ := inB_true.1 h
  exact ⟨n.toNat, by omega, by omega⟩
theorem in_one : ∀ x ∈ [(1 : Int)], -2147483648 ≤ x ∧ x ≤ 2147483647 := fun x h => by simp at h; omega

set_option maxHeartbeats 1000000 in
theorem specPowPoly_no (A : Option Addr) (c : Nat) (xs : List Int) (n : Int) (w : World) (h : Arg w A c xs) (hs : polB xs = false) :
    Calls Try.prog 39 #[.slice A xs.length c, .int .i64 n] w (IntsIs (powOf xs n) w) := by
  have HA := Lib.hid (l04Ok_any A c xs w _ h.sl (by have := h.len; omega))
  have HR := Lib.hid (powOf_no (n := n) hs)
  rw [hs] at HA
  clear hs h
  generalize powOf xs n = r at *
  generalize xs.length = m at *
  go_enter Try.func39, Try.ntmps39
  go_wp2_with fail
  refine HA.out.mono ?_
  rintro e w' ⟨rfl, rfl⟩
  go_wp2
  go_ret2
  exact IntsIs.nil_ HR.out (Below.refl _ _)
set_option maxHeartbeats 1000000 in
theorem specPowPoly_off (A : Option Addr) (c : Nat) (xs : List Int) (n : Int) (w : World) (h : Arg w A c xs) (hs : polB xs = true) (g1 : inB 0 64 n = false) :
    Calls Try.prog 39 #[.slice A xs.length c, .int .i64 n] w (IntsIs (powOf xs n) w) := by
  have HA := Lib.hid (l04Ok_any A c xs w _ h.sl (by have := h.len; omega))
  have HR := Lib.hid (powOf_off hs g1)
  have G1 := Lib.hid g1
  rw [hs] at HA
  clear hs h g1
  generalize powOf xs n = r at *
  generalize xs.length = m at *
  go_enter Try.func39, Try.ntmps39
  go_wp2_with fail
  refine HA.out.mono ?_
  rintro e w' ⟨rfl, rfl⟩
  go_wp2_with (go_at_call 47; refine (l00In_is _ _ _ _ _ G1.out).mono ?_; rintro e w' ⟨rfl, rfl⟩)
  go_ret2
  exact IntsIs.nil_ HR.out (Below.refl _ _)
set_option maxHeartbeats 1000000 in
theorem implPowPoly_no (A : Option Addr) (c : Nat) (xs : List Int) (n : Int) (w : World) (h : Arg w A c xs) (hs : polB xs = false) :
    Calls Try.prog 40 #[.slice A xs.length c, .int .i64 n] w (IntsIs (powOf xs n) w) := by
  have HA := Lib.hid (isPoly_any A c xs w _ h.sl (by have := h.len; omega))
  have HR := Lib.hid (powOf_no (n := n) hs)
  rw [hs] at HA
  clear hs h
  generalize powOf xs n = r at *
  generalize xs.length = m at *
  go_enter Try.func40, Try.ntmps40
  go_wp2_with fail
  refine HA.out.mono ?_
  rintro e w' ⟨rfl, rfl⟩
  go_wp2
  go_ret2
  exact IntsIs.nil_ HR.out (Below.refl _ _)
set_option maxHeartbeats 1000000 in
theorem implPowPoly_off (A : Option Addr) (c : Nat) (xs : List Int) (n : Int) (w : World) (h : Arg w A c xs) (hs : polB xs = true) (g1 : inB 0 64 n = false) :
    Calls Try.prog 40 #[.slice A xs.length c, .int .i64 n] w (IntsIs (powOf xs n) w) := by
  have HA := Lib.hid (isPoly_any A c xs w _ h.sl (by have := h.len; omega))
  have HR := Lib.hid (powOf_off hs g1)
  have G1 := Lib.hid g1
  rw [hs] at HA
  clear hs h g1
  generalize powOf xs n = r at *
  generalize xs.length = m at *
  go_enter Try.func40, Try.ntmps40
  go_wp2_with fail
  refine HA.out.mono ?_
  rintro e w' ⟨rfl, rfl⟩
  go_wp2_with (go_at_call 49; refine (within_is _ _ _ _ _ G1.out).mono ?_; rintro e w' ⟨rfl, rfl⟩)
  go_ret2
  exact IntsIs.nil_ HR.out (Below.refl _ _)
set_option maxHeartbeats 2000000 in
theorem specPowPoly_any (A : Option Addr) (c : Nat) (xs : List Int) (n : Int) (w : World) (h : Arg w A c xs) (hn : I64 n) :
    Calls Try.prog 39 #[.slice A xs.length c, .int .i64 n] w (IntsIs (powOf xs n) w) := by
  cases hs : polB xs
  · exact specPowPoly_no A c xs n w h hs
  cases g1 : inB 0 64 n
  · exact specPowPoly_off A c xs n w h hs g1
  have HA := Lib.hid (l04Ok_any A c xs w _ h.sl (by have := h.len; omega))
  rw [hs] at HA
  obtain ⟨k, rfl, hk⟩ := nat_of_64 g1
  have G1 := Lib.hid g1
  have HR := Lib.hid (powOf_yes hs g1)
  obtain ⟨l1, l2⟩ := pol_len hs
  have SM := Lib.hid (pol_smp hs)
  have BIG : Hid (∀ out k, 0 < k → 65 < (mulL out xs).length → ([], 5) = powR xs k out) := fun out k a b => powR_big a b
  have OK : Hid (∀ out k, 0 < k → ¬ 65 < (mulL out xs).length → powR xs (k - 1) (mulL out xs) = powR xs k out) := fun out k a b => powR_ok a b
  have DONE : Hid (∀ out, (out, 0) = powR xs 0 out) := fun out => rfl
  have H := Lib.hid h
  clear hs g1 h hn
  generalize powOf xs k = r at *
  generalize hm : xs.length = m at *
  have HM := Lib.hid hm
  clear hm
  go_enter Try.func39, Try.ntmps39
  go_wp2_with fail
  refine HA.out.mono ?_
  rintro e w' ⟨rfl, rfl⟩
  go_wp2_with (go_at_call 47; refine (l00In_is _ _ _ _ _ G1.out).mono ?_; rintro e w' ⟨rfl, rfl⟩)
  go_loopw [1, 6, 7, 8] (fun s v _ _ wr => ∃ (t mm : Nat) (A : Option Addr) (c : Nat) (out : List Int), s = .int .i64 t ∧ t ≤ 64 ∧ v = .slice A mm c ∧ Own wr w.heap.size wr.heap.size A c out ∧ Below w.heap.size w wr ∧ mm ≤ 65 ∧ Hid (mm = out.length ∧ (∀ x ∈ out, -2147483648 ≤ x ∧ x ≤ 2147483647) ∧ powR xs t out = r)) (fun s _ _ _ _ => (intOf s).toNat)
  case atStart => exact ⟨k, 1, _, _, [1], rfl, hk, rfl, Own.one w 1, by (repeat (first | exact Below.refl _ _ | assumption | refine Below.setCell ?_ (by (try simp) <;> omega) _ | refine Below.alloc ?_ (by (try simp) <;> omega) _ | refine below_drewN_ ?_ | refine Below.drew ?_)), by omega, Lib.hid ⟨rfl, in_one, HR.out⟩⟩
  case round =>
    obtain ⟨t, mm, A1, c1, out, rfl, ht, rfl, hown, hbr, hmm, HO⟩ := hrel
    have hsz := hbr.size
    by_cases hlt : 0 < t
    · have HARG : Hid (Arg wr A1 c1 out) := hown.argOf (by rw [← HO.out.1]; omega) HO.out.2.1
      have HLEN := Lib.hid (mulL_length out xs)
      have HIN := Lib.hid (mulL_in out xs)
      have hll : (mulL out xs).length ≤ 130 := by have a := HLEN.out; rw [← HO.out.1, HM.out] at a; omega
      have HMUL := Lib.hid (l04Mul_any A1 c1 out A c xs wr HARG.out (H.out.below hbr) (by rw [← HO.out.1, HM.out]; omega))
      rw [← HO.out.1, HM.out] at HMUL
      by_cases hbig : 65 < (mulL out xs).length
      · have HB := Lib.hid ((BIG.out out t hlt hbig).trans HO.out.2.2)
        go_wp2_with fail
        refine HMUL.out.mono ?_
        rintro e w2 ⟨A2, c2, rfl, hO2, hb2⟩
        have hsz2 := hb2.size
        have HF := l04Fit_any A2 c2 (mulL out xs) w2 (hO2.argOf (by omega) HIN.out)
        rw [mulL_trim] at HF
        go_wp2_with fail
        refine HF.mono ?_
        rintro e w3 ⟨zs, code, A3, c3, rfl, hq, hl, hO3, hb3⟩
        have hbb := nxt (nxt hbr hb2 hsz) hb3 (by omega)
        rw [← fitR_big hbig] at hq
        obtain ⟨rfl, rfl⟩ := Prod.mk.inj hq
        clear hq HF
        go_wp2
        go_ret2
        exact IntsIs.nil_ HB.out hbb
      · have HB := Lib.hid ((OK.out out t hlt hbig).trans HO.out.2.2)
        go_wp2_with fail
        refine HMUL.out.mono ?_
        rintro e w2 ⟨A2, c2, rfl, hO2, hb2⟩
        have hsz2 := hb2.size
        have HF := l04Fit_any A2 c2 (mulL out xs) w2 (hO2.argOf (by omega) HIN.out)
        rw [mulL_trim] at HF
        go_wp2_with fail
        refine HF.mono ?_
        rintro e w3 ⟨zs, code, A3, c3, rfl, hq, hl, hO3, hb3⟩
        have hbb := nxt (nxt hbr hb2 hsz) hb3 (by omega)
        rw [← fitR_ok hbig] at hq
        obtain ⟨rfl, rfl⟩ := Prod.mk.inj hq
        clear hq HF
        replace hO3 := hO3.mono (lo' := w.heap.size) (by omega) (Nat.le_refl _)
        go_wp2
        go_roundw
        case rel => exact ⟨t - 1, _, _, _, _, by go_num, by omega, rfl, hO3, hbb, by omega, Lib.hid ⟨rfl, HIN.out, HB.out⟩⟩
        case measure => simp [intOf]; omega
    · obtain rfl : t = 0 := by omega
      have HD := Lib.hid ((DONE.out out).trans HO.out.2.2)
      have HL := Lib.hid HO.out.1
      go_wp2
      go_ret2
      exact IntsIs.mk HD.out HL.out (by rw [← HL.out]; omega) hown hbr
set_option maxHeartbeats 2000000 in
theorem implPowPoly_any (A : Option Addr) (c : Nat) (xs : List Int) (n : Int) (w : World) (h : Arg w A c xs) (hn : I64 n) :
    Calls Try.prog 40 #[.slice A xs.length c, .int .i64 n] w (IntsIs (powOf xs n) w) := by
  cases hs : polB xs
  · exact implPowPoly_no A c xs n w h hs
  cases g1 : inB 0 64 n
  · exact implPowPoly_off A c xs n w h hs g1
  have HA := Lib.hid (isPoly_any A c xs w _ h.sl (by have := h.len; omega))
  rw [hs] at HA
  obtain ⟨k, rfl, hk⟩ := nat_of_64 g1
  have G1 := Lib.hid g1
  have HR := Lib.hid (powOf_yes hs g1)
  obtain ⟨l1, l2⟩ := pol_len hs
  have SM := Lib.hid (pol_smp hs)
  have BIG : Hid (∀ out k, 0 < k → 65 < (mulL out xs).length → ([], 5) = powR xs k out) := fun out k a b => powR_big a b
  have OK : Hid (∀ out k, 0 < k → ¬ 65 < (mulL out xs).length → powR xs (k - 1) (mulL out xs) = powR xs k out) := fun out k a b => powR_ok a b
  have DONE : Hid (∀ out, (out, 0) = powR xs 0 out) := fun out => rfl
  have H := Lib.hid h
  clear hs g1 h hn
  generalize powOf xs k = r at *
  generalize hm : xs.length = m at *
  have HM := Lib.hid hm
  clear hm
  go_enter Try.func40, Try.ntmps40
  go_wp2_with fail
  refine HA.out.mono ?_
  rintro e w' ⟨rfl, rfl⟩
  go_wp2_with (go_at_call 49; refine (within_is _ _ _ _ _ G1.out).mono ?_; rintro e w' ⟨rfl, rfl⟩)
  go_loopw [1, 6, 7, 8] (fun s v _ _ wr => ∃ (t mm : Nat) (A : Option Addr) (c : Nat) (out : List Int), s = .int .i64 t ∧ t ≤ 64 ∧ v = .slice A mm c ∧ Own wr w.heap.size wr.heap.size A c out ∧ Below w.heap.size w wr ∧ mm ≤ 65 ∧ Hid (mm = out.length ∧ (∀ x ∈ out, -2147483648 ≤ x ∧ x ≤ 2147483647) ∧ powR xs t out = r)) (fun s _ _ _ _ => (intOf s).toNat)
  case atStart => exact ⟨k, 1, _, _, [1], rfl, hk, rfl, Own.one w 1, by (repeat (first | exact Below.refl _ _ | assumption | refine Below.setCell ?_ (by (try simp) <;> omega) _ | refine Below.alloc ?_ (by (try simp) <;> omega) _ | refine below_drewN_ ?_ | refine Below.drew ?_)), by omega, Lib.hid ⟨rfl, in_one, HR.out⟩⟩
  case round =>
    obtain ⟨t, mm, A1, c1, out, rfl, ht, rfl, hown, hbr, hmm, HO⟩ := hrel
    have hsz := hbr.size
    by_cases hlt : 0 < t
    · have HARG : Hid (Arg wr A1 c1 out) := hown.argOf (by rw [← HO.out.1]; omega) HO.out.2.1
      have HLEN := Lib.hid (mulL_length out xs)
      have HIN := Lib.hid (mulL_in out xs)
      have hll : (mulL out xs).length ≤ 130 := by have a := HLEN.out; rw [← HO.out.1, HM.out] at a; omega
      have HMUL := Lib.hid (mulPoly_any A1 c1 out A c xs wr HARG.out (H.out.below hbr) (.all HO.out.2.1) SM.out (by rw [← HO.out.1, HM.out]; omega))
      rw [← HO.out.1, HM.out] at HMUL
      by_cases hbig : 65 < (mulL out xs).length
      · have HB := Lib.hid ((BIG.out out t hlt hbig).trans HO.out.2.2)
        go_wp2_with fail
        refine HMUL.out.mono ?_
        rintro e w2 ⟨A2, c2, rfl, hO3, hb2⟩
        have hbb := nxt hbr hb2 hsz
        go_wp2_with fail
        refine (told_big _ _ _ _ hbig).mono ?_
        rintro e w3 ⟨rfl, rfl⟩
        go_wp2
        go_ret2
        exact IntsIs.nil_ HB.out hbb
      · have HB := Lib.hid ((OK.out out t hlt hbig).trans HO.out.2.2)
        go_wp2_with fail
        refine HMUL.out.mono ?_
        rintro e w2 ⟨A2, c2, rfl, hO3, hb2⟩
        have hbb := nxt hbr hb2 hsz
        go_wp2_with fail
        refine (told_ok _ _ _ _ hbig).mono ?_
        rintro e w3 ⟨rfl, rfl⟩
        replace hO3 := hO3.mono (lo' := w.heap.size) (by omega) (Nat.le_refl _)
        go_wp2
        go_roundw
        case rel => exact ⟨t - 1, _, _, _, _, by go_num, by omega, rfl, hO3, hbb, by omega, Lib.hid ⟨rfl, HIN.out, HB.out⟩⟩
        case measure => simp [intOf]; omega
    · obtain rfl : t = 0 := by omega
      have HD := Lib.hid ((DONE.out out).trans HO.out.2.2)
      have HL := Lib.hid HO.out.1
      go_wp2
      go_ret2
      exact IntsIs.mk HD.out HL.out (by rw [← HL.out]; omega) hown hbr

end Go.Proofs.Ytppfcmhbbjgkfaa
