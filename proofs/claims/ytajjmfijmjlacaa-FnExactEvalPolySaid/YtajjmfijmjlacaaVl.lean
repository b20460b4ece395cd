/- Walks: SliceSignal, DelaySignal, AddSignals, SubSignals, ScaleSignal. -/
import Derived.Test.YtajjmfijmjlacaaVk
namespace Go.Proofs.Ytajjmfijmjlacaa
open Go.RowKit
set_option linter.unusedVariables false
set_option linter.unusedSimpArgs false

def sliceOf (xs : List Int) (o n : Int) : List Int × Int := if sigB xs then if inB 0 4000 o && inB 0 4000 n then (sliT xs o.toNat n.toNat, 0) else ([], 2) else ([], 1)
theorem sliceOf_no {xs : List Int} {o n : Int} (h : sigB xs = false) : ([], 1) = sliceOf xs o n := by simp [sliceOf, h]
theorem sliceOf_off {xs : List Int} {o n : Int} (h : sigB xs = true) (h' : inB 0 4000 o = false ∨ inB 0 4000 n = false) : ([], 2) = sliceOf xs o n := by
  unfold sliceOf
  rcases h' with h' | h' <;> simp [h, h']
theorem sliceOf_yes {xs : List Int} {o n : Nat} (h : sigB xs = true) (h1 : o ≤ 4000) (h2 : n ≤ 4000) : (sliT xs o n, 0) = sliceOf xs o n := by
  have e1 : inB 0 4000 (o : Int) = true := inB_mk (by omega) (by omega)
  have e2 : inB 0 4000 (n : Int) = true := inB_mk (by omega) (by omega)
  simp [sliceOf, h, e1, e2]
def delayOf (xs : List Int) (n : Int) : List Int × Int := if sigB xs then if inB 0 4000 n then if 4000 < (xs.length : Int) + n then ([], 5) else (List.replicate n.toNat 0 ++ xs, 0) else ([], 2) else ([], 1)
theorem delayOf_no {xs : List Int} {n : Int} (h : sigB xs = false) : ([], 1) = delayOf xs n := by simp [delayOf, h]
theorem delayOf_off {xs : List Int} {n : Int} (h : sigB xs = true) (h' : inB 0 4000 n = false) : ([], 2) = delayOf xs n := by simp [delayOf, h, h']
theorem delayOf_full {xs : List Int} {n : Nat} (h : sigB xs = true) (h' : n ≤ 4000) (h2 : 4000 < xs.length + n) : ([], 5) = delayOf xs n := by
  have e : inB 0 4000 (n : Int) = true := inB_mk (by omega) (by omega)
  unfold delayOf
  rw [if_pos h, if_pos e, if_pos (by omega)]
theorem delayOf_yes {xs : List Int} {n : Nat} (h : sigB xs = true) (h' : n ≤ 4000) (h2 : ¬ 4000 < xs.length + n) : (List.replicate n 0 ++ xs, 0) = delayOf xs n := by
  have e : inB 0 4000 (n : Int) = true := inB_mk (by omega) (by omega)
  unfold delayOf
  rw [if_pos h, if_pos e, if_neg (by omega)]
  simp
def addOf (g : Int) (xs ys : List Int) : List Int × Int := if sigB xs && sigB ys then (addT xs g ys, 0) else ([], 1)
theorem addOf_no {g : Int} {xs ys : List Int} (h : sigB xs = false ∨ sigB ys = false) : ([], 1) = addOf g xs ys := by
  unfold addOf
  rcases h with h | h <;> simp [h]
theorem addOf_yes {g : Int} {xs ys : List Int} (h : sigB xs = true) (h' : sigB ys = true) : (addT xs g ys, 0) = addOf g xs ys := by simp [addOf, h, h']
def scaleOf (xs : List Int) (g : Int) : List Int × Int := if sigB xs then if inB (-2147483648) 2147483647 g then (addT [] g xs, 0) else ([], 2) else ([], 1)
theorem scaleOf_no {xs : List Int} {g : Int} (h : sigB xs = false) : ([], 1) = scaleOf xs g := by simp [scaleOf, h]
theorem scaleOf_off {xs : List Int} {g : Int} (h : sigB xs = true) (h' : inB (-2147483648) 2147483647 g = false) : ([], 2) = scaleOf xs g := by simp [scaleOf, h, h']
theorem scaleOf_yes {xs : List Int} {g : Int} (h : sigB xs = true) (h' : inB (-2147483648) 2147483647 g = true) : (addT [] g xs, 0) = scaleOf xs g := by simp [scaleOf, h, h']
theorem scaleOf_yes' {xs : List Int} {g : Int} (h : sigB xs = true) (h' : inB (-2147483648) 2147483647 g = true) : (addT (List.replicate xs.length 0) g xs, 0) = scaleOf xs g := by rw [addT_zeros]; exact scaleOf_yes h h'
theorem nat_of_in {n : Int} (h : inB 0 4000 n = true) : ∃ k : Nat, n = k ∧ k ≤ 4000 := by
  obtain ⟨h1, h2⟩ := inB_true.1 h
  exact ⟨n.toNat, by omega, by omega⟩

set_option maxHeartbeats 1000000 in
theorem specSliceSignal_any (A : Option Addr) (c : Nat) (xs : List Int) (o n : Int) (w : World) (h : Arg w A c xs) (ho : I64 o) (hn : I64 n) :
    Calls Try.prog 33 #[.slice A xs.length c, .int .i64 o, .int .i64 n] w (IntsIs (sliceOf xs o n) w) := by
  have HA := Lib.hid (l03Ok_any A c xs w _ h.sl (by have := h.len; omega))
  cases hs : sigB xs
  · have HR := Lib.hid (sliceOf_no (o := o) (n := n) hs)
    rw [hs] at HA
    clear hs h
    generalize sliceOf xs o n = r at *
    generalize xs.length = m at *
    go_enter Try.func33, Try.ntmps33
    go_wp2_with fail
    refine HA.out.mono ?_
    rintro e w' ⟨rfl, rfl⟩
    go_wp2
    go_ret2
    exact IntsIs.nil_ HR.out (Below.refl _ _)
  · rw [hs] at HA
    cases g1 : inB 0 4000 o
    · have G1 := Lib.hid g1
      have HR := Lib.hid (sliceOf_off (n := n) hs (.inl g1))
      clear g1 hs h
      generalize sliceOf xs o n = r at *
      generalize xs.length = m at *
      go_enter Try.func33, Try.ntmps33
      go_wp2_with fail
      refine HA.out.mono ?_
      rintro e w' ⟨rfl, rfl⟩
      go_wp2_with fail
      refine (l00In_any _ _ _ _).mono ?_
      rw [G1.out]
      rintro e w' ⟨rfl, rfl⟩
      go_wp2
      go_ret2
      exact IntsIs.nil_ HR.out (Below.refl _ _)
    · have G1 := Lib.hid g1
      cases g2 : inB 0 4000 n
      · have G2 := Lib.hid g2
        have HR := Lib.hid (sliceOf_off (o := o) hs (.inr g2))
        clear g1 g2 hs h
        generalize sliceOf xs o n = r at *
        generalize xs.length = m at *
        go_enter Try.func33, Try.ntmps33
        go_wp2_with fail
        refine HA.out.mono ?_
        rintro e w' ⟨rfl, rfl⟩
        go_wp2_with fail
        refine (l00In_any _ _ _ _).mono ?_
        rw [G1.out]
        rintro e w' ⟨rfl, rfl⟩
        go_wp2_with fail
        refine (l00In_any _ _ _ _).mono ?_
        rw [G2.out]
        rintro e w' ⟨rfl, rfl⟩
        go_wp2
        go_ret2
        exact IntsIs.nil_ HR.out (Below.refl _ _)
      · have G2 := Lib.hid g2
        obtain ⟨o, rfl, h1⟩ := nat_of_in g1
        obtain ⟨n, rfl, h2⟩ := nat_of_in g2
        have HR := Lib.hid (sliceOf_yes hs h1 h2)
        have HS := Lib.hid (l03Slice_any A c xs w h o n (by omega) (by omega))
        have HL : Hid ((sliT xs o n).length = n) := tab_length _ _
        clear g1 g2 hs h ho hn
        generalize sliceOf xs o n = r at *
        generalize sliT xs o n = q at *
        generalize xs.length = m at *
        go_enter Try.func33, Try.ntmps33
        go_wp2_with fail
        refine HA.out.mono ?_
        rintro e w' ⟨rfl, rfl⟩
        go_wp2_with fail
        refine (l00In_any _ _ _ _).mono ?_
        rw [G1.out]
        rintro e w' ⟨rfl, rfl⟩
        go_wp2_with fail
        refine (l00In_any _ _ _ _).mono ?_
        rw [G2.out]
        rintro e w' ⟨rfl, rfl⟩
        go_wp2_with fail
        refine HS.out.mono ?_
        rintro e w1 ⟨A', c', rfl, hO, hb⟩
        go_wp2
        go_ret2
        exact IntsIs.mk HR.out rfl (by rw [HL.out]; omega) hO hb
set_option maxHeartbeats 1000000 in
theorem implSliceSignal_any (A : Option Addr) (c : Nat) (xs : List Int) (o n : Int) (w : World) (h : Arg w A c xs) (ho : I64 o) (hn : I64 n) :
    Calls Try.prog 34 #[.slice A xs.length c, .int .i64 o, .int .i64 n] w (IntsIs (sliceOf xs o n) w) := by
  have HA := Lib.hid (isSignal_any A c xs w _ h.sl (by have := h.len; omega))
  cases hs : sigB xs
  · have HR := Lib.hid (sliceOf_no (o := o) (n := n) hs)
    rw [hs] at HA
    clear hs h
    generalize sliceOf xs o n = r at *
    generalize xs.length = m at *
    go_enter Try.func34, Try.ntmps34
    go_wp2_with fail
    refine HA.out.mono ?_
    rintro e w' ⟨rfl, rfl⟩
    go_wp2
    go_ret2
    exact IntsIs.nil_ HR.out (Below.refl _ _)
  · rw [hs] at HA
    cases g1 : inB 0 4000 o
    · have G1 := Lib.hid g1
      have HR := Lib.hid (sliceOf_off (n := n) hs (.inl g1))
      clear g1 hs h
      generalize sliceOf xs o n = r at *
      generalize xs.length = m at *
      go_enter Try.func34, Try.ntmps34
      go_wp2_with fail
      refine HA.out.mono ?_
      rintro e w' ⟨rfl, rfl⟩
      go_wp2_with fail
      refine (isCount_any _ _).mono ?_
      rw [G1.out]
      rintro e w' ⟨rfl, rfl⟩
      go_wp2
      go_ret2
      exact IntsIs.nil_ HR.out (Below.refl _ _)
    · have G1 := Lib.hid g1
      cases g2 : inB 0 4000 n
      · have G2 := Lib.hid g2
        have HR := Lib.hid (sliceOf_off (o := o) hs (.inr g2))
        clear g1 g2 hs h
        generalize sliceOf xs o n = r at *
        generalize xs.length = m at *
        go_enter Try.func34, Try.ntmps34
        go_wp2_with fail
        refine HA.out.mono ?_
        rintro e w' ⟨rfl, rfl⟩
        go_wp2_with fail
        refine (isCount_any _ _).mono ?_
        rw [G1.out]
        rintro e w' ⟨rfl, rfl⟩
        go_wp2_with fail
        refine (isCount_any _ _).mono ?_
        rw [G2.out]
        rintro e w' ⟨rfl, rfl⟩
        go_wp2
        go_ret2
        exact IntsIs.nil_ HR.out (Below.refl _ _)
      · have G2 := Lib.hid g2
        obtain ⟨o, rfl, h1⟩ := nat_of_in g1
        obtain ⟨n, rfl, h2⟩ := nat_of_in g2
        have HR := Lib.hid (sliceOf_yes hs h1 h2)
        have HS := Lib.hid (slice_any A c xs w h o n (by omega) (by omega))
        have HL : Hid ((sliT xs o n).length = n) := tab_length _ _
        clear g1 g2 hs h ho hn
        generalize sliceOf xs o n = r at *
        generalize sliT xs o n = q at *
        generalize xs.length = m at *
        go_enter Try.func34, Try.ntmps34
        go_wp2_with fail
        refine HA.out.mono ?_
        rintro e w' ⟨rfl, rfl⟩
        go_wp2_with fail
        refine (isCount_any _ _).mono ?_
        rw [G1.out]
        rintro e w' ⟨rfl, rfl⟩
        go_wp2_with fail
        refine (isCount_any _ _).mono ?_
        rw [G2.out]
        rintro e w' ⟨rfl, rfl⟩
        go_wp2_with fail
        refine HS.out.mono ?_
        rintro e w1 ⟨A', c', rfl, hO, hb⟩
        go_wp2
        go_ret2
        exact IntsIs.mk HR.out rfl (by rw [HL.out]; omega) hO hb
set_option maxHeartbeats 1000000 in
theorem specDelaySignal_any (A : Option Addr) (c : Nat) (xs : List Int) (n : Int) (w : World) (h : Arg w A c xs) (hn : I64 n) :
    Calls Try.prog 27 #[.slice A xs.length c, .int .i64 n] w (IntsIs (delayOf xs n) w) := by
  have HA := Lib.hid (l03Ok_any A c xs w _ h.sl (by have := h.len; omega))
  cases hs : sigB xs
  · have HR := Lib.hid (delayOf_no (n := n) hs)
    rw [hs] at HA
    clear hs h
    generalize delayOf xs n = r at *
    generalize xs.length = m at *
    go_enter Try.func27, Try.ntmps27
    go_wp2_with fail
    refine HA.out.mono ?_
    rintro e w' ⟨rfl, rfl⟩
    go_wp2
    go_ret2
    exact IntsIs.nil_ HR.out (Below.refl _ _)
  · rw [hs] at HA
    have hm : xs.length ≤ 4000 := (sigB_inv hs).1
    cases g1 : inB 0 4000 n
    · have G1 := Lib.hid g1
      have HR := Lib.hid (delayOf_off hs g1)
      clear g1 hs h
      generalize delayOf xs n = r at *
      generalize xs.length = m at *
      go_enter Try.func27, Try.ntmps27
      go_wp2_with fail
      refine HA.out.mono ?_
      rintro e w' ⟨rfl, rfl⟩
      go_wp2_with fail
      refine (l00In_any _ _ _ _).mono ?_
      rw [G1.out]
      rintro e w' ⟨rfl, rfl⟩
      go_wp2
      go_ret2
      exact IntsIs.nil_ HR.out (Below.refl _ _)
    · have G1 := Lib.hid g1
      obtain ⟨n, rfl, h1⟩ := nat_of_in g1
      by_cases hbig : 4000 < xs.length + n
      · have HR := Lib.hid (delayOf_full hs h1 hbig)
        clear g1 hs h hn
        generalize delayOf xs n = r at *
        generalize xs.length = m at *
        have hbg : (4000 : Int) < (m : Int) + n := by omega
        have hbg' : (4000 : Int) < (n : Int) + m := by omega
        go_enter Try.func27, Try.ntmps27
        go_wp2_with fail
        refine HA.out.mono ?_
        rintro e w' ⟨rfl, rfl⟩
        go_wp2_with fail
        refine (l00In_any _ _ _ _).mono ?_
        rw [G1.out]
        rintro e w' ⟨rfl, rfl⟩
        skip
        go_wp2
        go_ret2
        exact IntsIs.nil_ HR.out (Below.refl _ _)
      · have HR := Lib.hid (delayOf_yes hs h1 hbig)
        have H := Lib.hid h
        have HN : Hid (∃ l, l = List.replicate n (0 : Int) ∧ l.length = n) := ⟨_, rfl, by simp⟩
        clear g1 hs h hn
        generalize delayOf xs n = r at *
        generalize hm' : xs.length = m at *
        have HM := Lib.hid hm'
        clear hm'
        have hbg : ¬ (4000 : Int) < (m : Int) + n := by omega
        have hbg' : ¬ (4000 : Int) < (n : Int) + m := by omega
        go_enter Try.func27, Try.ntmps27
        go_wp2_with fail
        refine HA.out.mono ?_
        rintro e w' ⟨rfl, rfl⟩
        go_wp2_with fail
        refine (l00In_any _ _ _ _).mono ?_
        rw [G1.out]
        rintro e w' ⟨rfl, rfl⟩
        skip
        go_wp2_with fail
        refine (l03Zeros_any _ _ (by omega)).mono ?_
        rintro e w1 ⟨A1, c1, rfl, hO, hb⟩
        rw [List.length_replicate]
        have hsl := (H.out.sl.below hb (Nat.le_refl _)).mono hb.size
        have hsz := hb.size
        go_wp2_with (at_builtin; refine wl_apps rfl (.tmp 18) (.tmp 19) rfl A1 c1 (List.replicate n 0) n rfl hO (by simp) w1.heap.size A c xs m rfl hsl HM.out.symm H.out.nil ?c1 hsz ?_)
        case c1 => omega
        intro A2 c2 w2 hO2 hb2
        go_wp2
        go_ret2
        exact IntsIs.mk HR.out (by simp [HM.out]) (by simp [HM.out]; omega) hO2 (hb.trans hb2)
set_option maxHeartbeats 1000000 in
theorem implDelaySignal_any (A : Option Addr) (c : Nat) (xs : List Int) (n : Int) (w : World) (h : Arg w A c xs) (hn : I64 n) :
    Calls Try.prog 28 #[.slice A xs.length c, .int .i64 n] w (IntsIs (delayOf xs n) w) := by
  have HA := Lib.hid (isSignal_any A c xs w _ h.sl (by have := h.len; omega))
  cases hs : sigB xs
  · have HR := Lib.hid (delayOf_no (n := n) hs)
    rw [hs] at HA
    clear hs h
    generalize delayOf xs n = r at *
    generalize xs.length = m at *
    go_enter Try.func28, Try.ntmps28
    go_wp2_with fail
    refine HA.out.mono ?_
    rintro e w' ⟨rfl, rfl⟩
    go_wp2
    go_ret2
    exact IntsIs.nil_ HR.out (Below.refl _ _)
  · rw [hs] at HA
    have hm : xs.length ≤ 4000 := (sigB_inv hs).1
    cases g1 : inB 0 4000 n
    · have G1 := Lib.hid g1
      have HR := Lib.hid (delayOf_off hs g1)
      clear g1 hs h
      generalize delayOf xs n = r at *
      generalize xs.length = m at *
      go_enter Try.func28, Try.ntmps28
      go_wp2_with fail
      refine HA.out.mono ?_
      rintro e w' ⟨rfl, rfl⟩
      go_wp2_with fail
      refine (isCount_any _ _).mono ?_
      rw [G1.out]
      rintro e w' ⟨rfl, rfl⟩
      go_wp2
      go_ret2
      exact IntsIs.nil_ HR.out (Below.refl _ _)
    · have G1 := Lib.hid g1
      obtain ⟨n, rfl, h1⟩ := nat_of_in g1
      by_cases hbig : 4000 < xs.length + n
      · have HR := Lib.hid (delayOf_full hs h1 hbig)
        clear g1 hs h hn
        generalize delayOf xs n = r at *
        generalize xs.length = m at *
        have hbg : (4000 : Int) < (m : Int) + n := by omega
        have hbg' : (4000 : Int) < (n : Int) + m := by omega
        go_enter Try.func28, Try.ntmps28
        go_wp2_with fail
        refine HA.out.mono ?_
        rintro e w' ⟨rfl, rfl⟩
        go_wp2_with fail
        refine (isCount_any _ _).mono ?_
        rw [G1.out]
        rintro e w' ⟨rfl, rfl⟩
        (go_wp2_with fail; refine (size_any _ _ _ _).mono ?_; rintro e w' ⟨rfl, rfl⟩)
        go_wp2
        go_ret2
        exact IntsIs.nil_ HR.out (Below.refl _ _)
      · have HR := Lib.hid (delayOf_yes hs h1 hbig)
        have H := Lib.hid h
        have HN : Hid (∃ l, l = List.replicate n (0 : Int) ∧ l.length = n) := ⟨_, rfl, by simp⟩
        clear g1 hs h hn
        generalize delayOf xs n = r at *
        generalize hm' : xs.length = m at *
        have HM := Lib.hid hm'
        clear hm'
        have hbg : ¬ (4000 : Int) < (m : Int) + n := by omega
        have hbg' : ¬ (4000 : Int) < (n : Int) + m := by omega
        go_enter Try.func28, Try.ntmps28
        go_wp2_with fail
        refine HA.out.mono ?_
        rintro e w' ⟨rfl, rfl⟩
        go_wp2_with fail
        refine (isCount_any _ _).mono ?_
        rw [G1.out]
        rintro e w' ⟨rfl, rfl⟩
        (go_wp2_with fail; refine (size_any _ _ _ _).mono ?_; rintro e w' ⟨rfl, rfl⟩)
        go_wp2_with fail
        refine (zeros_any _ _ (by omega)).mono ?_
        rintro e w1 ⟨A1, c1, rfl, hO, hb⟩
        rw [List.length_replicate]
        have hsl := (H.out.sl.below hb (Nat.le_refl _)).mono hb.size
        have hsz := hb.size
        go_wp2_with (at_builtin; refine wl_apps rfl (.tmp 18) (.tmp 19) rfl A1 c1 (List.replicate n 0) n rfl hO (by simp) w1.heap.size A c xs m rfl hsl HM.out.symm H.out.nil ?c1 hsz ?_)
        case c1 => omega
        intro A2 c2 w2 hO2 hb2
        go_wp2
        go_ret2
        exact IntsIs.mk HR.out (by simp [HM.out]) (by simp [HM.out]; omega) hO2 (hb.trans hb2)
set_option maxHeartbeats 1000000 in
theorem specAddSignals_any (A : Option Addr) (c : Nat) (xs : List Int) (A2 : Option Addr) (c2 : Nat) (ys : List Int) (w : World) (h : Arg w A c xs) (h2 : Arg w A2 c2 ys) :
    Calls Try.prog 35 #[.slice A xs.length c, .slice A2 ys.length c2] w (IntsIs (addOf 1 xs ys) w) := by
  have HA := Lib.hid (l03Ok_any A c xs w _ h.sl (by have := h.len; omega))
  have HA2 := Lib.hid (l03Ok_any A2 c2 ys w _ h2.sl (by have := h2.len; omega))
  cases hs : sigB xs
  · have HR := Lib.hid (addOf_no (g := 1) (ys := ys) (.inl hs))
    rw [hs] at HA
    clear hs h h2 HA2
    generalize addOf 1 xs ys = r at *
    generalize xs.length = m at *
    generalize ys.length = m2 at *
    go_enter Try.func35, Try.ntmps35
    go_wp2_with fail
    refine HA.out.mono ?_
    rintro e w' ⟨rfl, rfl⟩
    go_wp2
    go_ret2
    exact IntsIs.nil_ HR.out (Below.refl _ _)
  · rw [hs] at HA
    cases hs2 : sigB ys
    · have HR := Lib.hid (addOf_no (g := 1) (xs := xs) (.inr hs2))
      rw [hs2] at HA2
      clear hs hs2 h h2
      generalize addOf 1 xs ys = r at *
      generalize xs.length = m at *
      generalize ys.length = m2 at *
      go_enter Try.func35, Try.ntmps35
      go_wp2_with fail
      refine HA.out.mono ?_
      rintro e w' ⟨rfl, rfl⟩
      go_wp2_with fail
      refine HA2.out.mono ?_
      rintro e w' ⟨rfl, rfl⟩
      go_wp2
      go_ret2
      exact IntsIs.nil_ HR.out (Below.refl _ _)
    · rw [hs2] at HA2
      have HR := Lib.hid (addOf_yes (g := 1) hs hs2)
      have HL : Hid ((addT xs 1 ys).length ≤ 4000) := by
        rw [addT_length]
        have h1 := (sigB_inv hs).1
        have h2 := (sigB_inv hs2).1
        show _ ≤ _
        omega
      have HS := Lib.hid (l03Add_any A c xs A2 c2 ys (1) w h h2)
      clear hs hs2 h h2
      generalize addOf 1 xs ys = r at *
      generalize addT xs 1 ys = q at *
      generalize xs.length = m at *
      generalize ys.length = m2 at *
      go_enter Try.func35, Try.ntmps35
      go_wp2_with fail
      refine HA.out.mono ?_
      rintro e w' ⟨rfl, rfl⟩
      go_wp2_with fail
      refine HA2.out.mono ?_
      rintro e w' ⟨rfl, rfl⟩
      go_wp2_with fail
      refine HS.out.mono ?_
      rintro e w1 ⟨A', c', rfl, hO, hb⟩
      go_wp2
      go_ret2
      exact IntsIs.mk HR.out rfl (by have := HL.out; omega) hO hb
set_option maxHeartbeats 1000000 in
theorem implAddSignals_any (A : Option Addr) (c : Nat) (xs : List Int) (A2 : Option Addr) (c2 : Nat) (ys : List Int) (w : World) (h : Arg w A c xs) (h2 : Arg w A2 c2 ys) :
    Calls Try.prog 36 #[.slice A xs.length c, .slice A2 ys.length c2] w (IntsIs (addOf 1 xs ys) w) := by
  have HA := Lib.hid (isSignal_any A c xs w _ h.sl (by have := h.len; omega))
  have HA2 := Lib.hid (isSignal_any A2 c2 ys w _ h2.sl (by have := h2.len; omega))
  cases hs : sigB xs
  · have HR := Lib.hid (addOf_no (g := 1) (ys := ys) (.inl hs))
    rw [hs] at HA
    clear hs h h2 HA2
    generalize addOf 1 xs ys = r at *
    generalize xs.length = m at *
    generalize ys.length = m2 at *
    go_enter Try.func36, Try.ntmps36
    go_wp2_with fail
    refine HA.out.mono ?_
    rintro e w' ⟨rfl, rfl⟩
    go_wp2
    go_ret2
    exact IntsIs.nil_ HR.out (Below.refl _ _)
  · rw [hs] at HA
    cases hs2 : sigB ys
    · have HR := Lib.hid (addOf_no (g := 1) (xs := xs) (.inr hs2))
      rw [hs2] at HA2
      clear hs hs2 h h2
      generalize addOf 1 xs ys = r at *
      generalize xs.length = m at *
      generalize ys.length = m2 at *
      go_enter Try.func36, Try.ntmps36
      go_wp2_with fail
      refine HA.out.mono ?_
      rintro e w' ⟨rfl, rfl⟩
      go_wp2_with fail
      refine HA2.out.mono ?_
      rintro e w' ⟨rfl, rfl⟩
      go_wp2
      go_ret2
      exact IntsIs.nil_ HR.out (Below.refl _ _)
    · rw [hs2] at HA2
      have HR := Lib.hid (addOf_yes (g := 1) hs hs2)
      have HL : Hid ((addT xs 1 ys).length ≤ 4000) := by
        rw [addT_length]
        have h1 := (sigB_inv hs).1
        have h2 := (sigB_inv hs2).1
        show _ ≤ _
        omega
      have HS := Lib.hid (addTimes_any A c xs A2 c2 ys (1) w h h2 (.of (sigB_inv hs).2) (.of (sigB_inv hs2).2) (by omega) (by omega))
      clear hs hs2 h h2
      generalize addOf 1 xs ys = r at *
      generalize addT xs 1 ys = q at *
      generalize xs.length = m at *
      generalize ys.length = m2 at *
      go_enter Try.func36, Try.ntmps36
      go_wp2_with fail
      refine HA.out.mono ?_
      rintro e w' ⟨rfl, rfl⟩
      go_wp2_with fail
      refine HA2.out.mono ?_
      rintro e w' ⟨rfl, rfl⟩
      go_wp2_with fail
      refine HS.out.mono ?_
      rintro e w1 ⟨A', c', rfl, hO, hb⟩
      go_wp2
      go_ret2
      exact IntsIs.mk HR.out rfl (by have := HL.out; omega) hO hb
set_option maxHeartbeats 1000000 in
theorem specSubSignals_any (A : Option Addr) (c : Nat) (xs : List Int) (A2 : Option Addr) (c2 : Nat) (ys : List Int) (w : World) (h : Arg w A c xs) (h2 : Arg w A2 c2 ys) :
    Calls Try.prog 37 #[.slice A xs.length c, .slice A2 ys.length c2] w (IntsIs (addOf (-1) xs ys) w) := by
  have HA := Lib.hid (l03Ok_any A c xs w _ h.sl (by have := h.len; omega))
  have HA2 := Lib.hid (l03Ok_any A2 c2 ys w _ h2.sl (by have := h2.len; omega))
  cases hs : sigB xs
  · have HR := Lib.hid (addOf_no (g := (-1)) (ys := ys) (.inl hs))
    rw [hs] at HA
    clear hs h h2 HA2
    generalize addOf (-1) xs ys = r at *
    generalize xs.length = m at *
    generalize ys.length = m2 at *
    go_enter Try.func37, Try.ntmps37
    go_wp2_with fail
    refine HA.out.mono ?_
    rintro e w' ⟨rfl, rfl⟩
    go_wp2
    go_ret2
    exact IntsIs.nil_ HR.out (Below.refl _ _)
  · rw [hs] at HA
    cases hs2 : sigB ys
    · have HR := Lib.hid (addOf_no (g := (-1)) (xs := xs) (.inr hs2))
      rw [hs2] at HA2
      clear hs hs2 h h2
      generalize addOf (-1) xs ys = r at *
      generalize xs.length = m at *
      generalize ys.length = m2 at *
      go_enter Try.func37, Try.ntmps37
      go_wp2_with fail
      refine HA.out.mono ?_
      rintro e w' ⟨rfl, rfl⟩
      go_wp2_with fail
      refine HA2.out.mono ?_
      rintro e w' ⟨rfl, rfl⟩
      go_wp2
      go_ret2
      exact IntsIs.nil_ HR.out (Below.refl _ _)
    · rw [hs2] at HA2
      have HR := Lib.hid (addOf_yes (g := (-1)) hs hs2)
      have HL : Hid ((addT xs (-1) ys).length ≤ 4000) := by
        rw [addT_length]
        have h1 := (sigB_inv hs).1
        have h2 := (sigB_inv hs2).1
        show _ ≤ _
        omega
      have HS := Lib.hid (l03Add_any A c xs A2 c2 ys (-1) w h h2)
      clear hs hs2 h h2
      generalize addOf (-1) xs ys = r at *
      generalize addT xs (-1) ys = q at *
      generalize xs.length = m at *
      generalize ys.length = m2 at *
      go_enter Try.func37, Try.ntmps37
      go_wp2_with fail
      refine HA.out.mono ?_
      rintro e w' ⟨rfl, rfl⟩
      go_wp2_with fail
      refine HA2.out.mono ?_
      rintro e w' ⟨rfl, rfl⟩
      go_wp2_with fail
      refine HS.out.mono ?_
      rintro e w1 ⟨A', c', rfl, hO, hb⟩
      go_wp2
      go_ret2
      exact IntsIs.mk HR.out rfl (by have := HL.out; omega) hO hb
set_option maxHeartbeats 1000000 in
theorem implSubSignals_any (A : Option Addr) (c : Nat) (xs : List Int) (A2 : Option Addr) (c2 : Nat) (ys : List Int) (w : World) (h : Arg w A c xs) (h2 : Arg w A2 c2 ys) :
    Calls Try.prog 38 #[.slice A xs.length c, .slice A2 ys.length c2] w (IntsIs (addOf (-1) xs ys) w) := by
  have HA := Lib.hid (isSignal_any A c xs w _ h.sl (by have := h.len; omega))
  have HA2 := Lib.hid (isSignal_any A2 c2 ys w _ h2.sl (by have := h2.len; omega))
  cases hs : sigB xs
  · have HR := Lib.hid (addOf_no (g := (-1)) (ys := ys) (.inl hs))
    rw [hs] at HA
    clear hs h h2 HA2
    generalize addOf (-1) xs ys = r at *
    generalize xs.length = m at *
    generalize ys.length = m2 at *
    go_enter Try.func38, Try.ntmps38
    go_wp2_with fail
    refine HA.out.mono ?_
    rintro e w' ⟨rfl, rfl⟩
    go_wp2
    go_ret2
    exact IntsIs.nil_ HR.out (Below.refl _ _)
  · rw [hs] at HA
    cases hs2 : sigB ys
    · have HR := Lib.hid (addOf_no (g := (-1)) (xs := xs) (.inr hs2))
      rw [hs2] at HA2
      clear hs hs2 h h2
      generalize addOf (-1) xs ys = r at *
      generalize xs.length = m at *
      generalize ys.length = m2 at *
      go_enter Try.func38, Try.ntmps38
      go_wp2_with fail
      refine HA.out.mono ?_
      rintro e w' ⟨rfl, rfl⟩
      go_wp2_with fail
      refine HA2.out.mono ?_
      rintro e w' ⟨rfl, rfl⟩
      go_wp2
      go_ret2
      exact IntsIs.nil_ HR.out (Below.refl _ _)
    · rw [hs2] at HA2
      have HR := Lib.hid (addOf_yes (g := (-1)) hs hs2)
      have HL : Hid ((addT xs (-1) ys).length ≤ 4000) := by
        rw [addT_length]
        have h1 := (sigB_inv hs).1
        have h2 := (sigB_inv hs2).1
        show _ ≤ _
        omega
      have HS := Lib.hid (addTimes_any A c xs A2 c2 ys (-1) w h h2 (.of (sigB_inv hs).2) (.of (sigB_inv hs2).2) (by omega) (by omega))
      clear hs hs2 h h2
      generalize addOf (-1) xs ys = r at *
      generalize addT xs (-1) ys = q at *
      generalize xs.length = m at *
      generalize ys.length = m2 at *
      go_enter Try.func38, Try.ntmps38
      go_wp2_with fail
      refine HA.out.mono ?_
      rintro e w' ⟨rfl, rfl⟩
      go_wp2_with fail
      refine HA2.out.mono ?_
      rintro e w' ⟨rfl, rfl⟩
      go_wp2_with fail
      refine HS.out.mono ?_
      rintro e w1 ⟨A', c', rfl, hO, hb⟩
      go_wp2
      go_ret2
      exact IntsIs.mk HR.out rfl (by have := HL.out; omega) hO hb

end Go.Proofs.Ytajjmfijmjlacaa
