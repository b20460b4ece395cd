/- Walks: SeriesQuotient, SeriesInverse, PowPoly. -/
import Derived.Test.YtppfcmhbbjgkfaaVp
namespace Go.Proofs.Ytppfcmhbbjgkfaa
open Go.RowKit
set_option linter.unusedVariables false
set_option linter.unusedSimpArgs false

/-- The code of a series with some divisor. -/
def askC (xs ys : List Int) (n : Int) : Int := if polB xs && polB ys then if inB 0 256 n then if oddB (ys.getD 0 0) then 0 else 6 else 2 else 1
theorem askC_no {xs ys : List Int} {n : Int} (h : (polB xs && polB ys) = false) : askC xs ys n = 1 := by simp [askC, h]
theorem askC_off {xs ys : List Int} {n : Int} (h : (polB xs && polB ys) = true) (h1 : inB 0 256 n = false) : askC xs ys n = 2 := by unfold askC; rw [if_pos h, h1]; rfl
theorem askC_even {xs ys : List Int} {n : Int} (h : (polB xs && polB ys) = true) (h1 : inB 0 256 n = true) (h2 : oddB (ys.getD 0 0) = false) : askC xs ys n = 6 := by unfold askC; rw [if_pos h, h1, h2]; rfl
theorem askC_ok {xs ys : List Int} {n : Int} (h : (polB xs && polB ys) = true) (h1 : inB 0 256 n = true) (h2 : oddB (ys.getD 0 0) = true) : askC xs ys n = 0 := by unfold askC; rw [if_pos h, h1, h2]; rfl
def squoOf (xs ys : List Int) (n : Int) : List Int × Int := if askC xs ys n = 0 then (qL (fun k => xs.getD k 0) (fun k => ys.getD k 0) ys.length (invN (ys.getD 0 0) 5) n.toNat, 0) else ([], askC xs ys n)
theorem squoOf_no {xs ys : List Int} {n c : Int} (h : askC xs ys n = c) (hc : c ≠ 0) : ([], c) = squoOf xs ys n := by unfold squoOf; rw [h, if_neg hc]
theorem squoOf_yes {xs ys : List Int} {n : Nat} (h : askC xs ys n = 0) : (qL (fun k => xs.getD k 0) (fun k => ys.getD k 0) ys.length (invN (ys.getD 0 0) 5) n, 0) = squoOf xs ys n := by unfold squoOf; rw [if_pos h]; rfl
theorem pol_one : polB [1] = true := by decide
theorem askC_one (xs : List Int) (n : Int) : askC xs xs n = askC [1] xs n := by
  unfold askC
  rw [pol_one, Bool.and_self, Bool.true_and]
theorem askC_inv {xs ys : List Int} {n : Int} (h : askC xs ys n = 0) : polB xs = true ∧ polB ys = true ∧ inB 0 256 n = true := by
  unfold askC at h
  cases h1 : polB xs
  · simp [h1] at h
  cases h2 : polB ys
  · simp [h1, h2] at h
  cases h3 : inB 0 256 n
  · simp [h1, h2, h3] at h
  exact ⟨rfl, rfl, rfl⟩
theorem nat_of_256 {n : Int} (h : inB 0 256 n = true) : ∃ k : Nat, n = k ∧ k ≤ 256 := by
  obtain ⟨h1, h2⟩ := inB_true.1 h
  exact ⟨n.toNat, by omega, by omega⟩
theorem smp64 {x : Int} (h : -2147483648 ≤ x ∧ x ≤ 2147483647) : I64 x := ⟨by omega, by omega⟩

set_option maxHeartbeats 1000000 in
theorem l04Ask_any (A : Option Addr) (c : Nat) (xs : List Int) (A2 : Option Addr) (c2 : Nat) (ys : List Int) (n : Int) (w : World) (h : Arg w A c xs) (h2 : Arg w A2 c2 ys) :
    Calls Try.prog 77 #[.slice A xs.length c, .slice A2 ys.length c2, .int .i64 n] w (NumIs (askC xs ys n) w) := by
  have HA := Lib.hid (l04Ok_any A c xs w _ h.sl (by have := h.len; omega))
  have HA2 := Lib.hid (l04Ok_any A2 c2 ys w _ h2.sl (by have := h2.len; omega))
  cases hs : polB xs
  · have HR := Lib.hid (askC_no (xs := xs) (ys := ys) (n := n) (by rw [hs]; rfl))
    rw [hs] at HA
    clear hs HA2 h h2
    generalize askC xs ys n = r at *
    obtain rfl := HR.out
    generalize xs.length = m at *
    generalize ys.length = m2 at *
    go_enter Try.func77, Try.ntmps77
    go_wp2_with fail
    refine HA.out.mono ?_
    rintro e w' ⟨rfl, rfl⟩
    go_wp2
    go_ret
    exact ⟨rfl, rfl⟩
  rw [hs] at HA
  cases hs2 : polB ys
  · have HR := Lib.hid (askC_no (xs := xs) (ys := ys) (n := n) (by rw [hs, hs2]; rfl))
    rw [hs2] at HA2
    clear hs hs2 h h2
    generalize askC xs ys n = r at *
    obtain rfl := HR.out
    generalize xs.length = m at *
    generalize ys.length = m2 at *
    go_enter Try.func77, Try.ntmps77
    go_wp2_with fail
    refine HA.out.mono ?_
    rintro e w' ⟨rfl, rfl⟩
    go_wp2_with fail
    refine HA2.out.mono ?_
    rintro e w' ⟨rfl, rfl⟩
    go_wp2
    go_ret
    exact ⟨rfl, rfl⟩
  rw [hs2] at HA2
  have hb : (polB xs && polB ys) = true := by rw [hs, hs2]; rfl
  cases g1 : inB 0 256 n
  · have HR := Lib.hid (askC_off hb g1)
    have G1 := Lib.hid g1
    clear hs hs2 h h2 hb g1
    generalize askC xs ys n = r at *
    obtain rfl := HR.out
    generalize xs.length = m at *
    generalize ys.length = m2 at *
    go_enter Try.func77, Try.ntmps77
    go_wp2_with fail
    refine HA.out.mono ?_
    rintro e w' ⟨rfl, rfl⟩
    go_wp2_with fail
    refine HA2.out.mono ?_
    rintro e w' ⟨rfl, rfl⟩
    go_wp2_with (go_at_call 47; refine (l00In_is _ _ _ _ _ G1.out).mono ?_; rintro e w' ⟨rfl, rfl⟩)
    go_ret
    exact ⟨rfl, rfl⟩
  have G1 := Lib.hid g1
  have S := Lib.hid (smp64 (pol_smp hs2 0))
  have hl := (pol_len hs2).1
  have HO : Hid (∀ v, oddB (ys.getD 0 0) = v → (if v then (0 : Int) else 6) = askC xs ys n) := by
    intro v hv
    cases v
    · exact (askC_even hb g1 hv).symm
    · exact (askC_ok hb g1 hv).symm
  obtain ⟨b, o, rfl, _, hc⟩ := h2.sl (by omega)
  have e0 : w.cell? ⟨b, o, none⟩ = some (.int .i64 (ys.getD 0 0)) := hc 0 (by omega)
  clear hs hs2 h h2 hb g1 hc
  generalize askC xs ys n = r at *
  generalize ys.getD 0 0 = y at *
  generalize xs.length = m at *
  generalize ys.length = m2 at *
  have HL := Lib.hid (l04Odd_any y w S.out)
  cases g2 : oddB y
  all_goals
    obtain rfl := HO.out _ g2
    rw [g2] at HL
    clear g2 HO
    go_enter Try.func77, Try.ntmps77
    go_wp2_with fail
    refine HA.out.mono ?_
    rintro e w' ⟨rfl, rfl⟩
    go_wp2_with fail
    refine HA2.out.mono ?_
    rintro e w' ⟨rfl, rfl⟩
    go_wp2_with (first | (go_at_call 47; refine (l00In_is _ _ _ _ _ G1.out).mono ?_; rintro e w' ⟨rfl, rfl⟩) | (go_at_call 65; refine HL.out.mono ?_; rintro e w' ⟨rfl, rfl⟩))
    go_ret
    exact ⟨rfl, rfl⟩
set_option maxHeartbeats 1000000 in
theorem specSeriesQuotient_any (A : Option Addr) (c : Nat) (xs : List Int) (A2 : Option Addr) (c2 : Nat) (ys : List Int) (n : Int) (w : World) (h : Arg w A c xs) (h2 : Arg w A2 c2 ys) (hn : I64 n) :
    Calls Try.prog 41 #[.slice A xs.length c, .slice A2 ys.length c2, .int .i64 n] w (IntsIs (squoOf xs ys n) w) := by
  have HA := Lib.hid (l04Ask_any A c xs A2 c2 ys n w h h2)
  by_cases hc : askC xs ys n = 0
  · obtain ⟨hs, hs2, g1⟩ := askC_inv hc
    obtain ⟨k, rfl, hk⟩ := nat_of_256 g1
    have HR := Lib.hid (squoOf_yes hc)
    have HL := Lib.hid (qL_length (fun k => xs.getD k 0) (fun k => ys.getD k 0) ys.length (invN (ys.getD 0 0) 5) k)
    have HS := Lib.hid (l04Quotient_any A c xs A2 c2 ys k w h h2 (pol_smp hs2) (pol_len hs2).1 (by omega))
    rw [hc] at HA
    clear hc hs hs2 g1 h h2 hn
    generalize squoOf xs ys k = r at *
    generalize qL (fun k => xs.getD k 0) (fun k => ys.getD k 0) ys.length (invN (ys.getD 0 0) 5) k = q at *
    generalize xs.length = m at *
    generalize ys.length = m2 at *
    go_enter Try.func41, Try.ntmps41
    go_wp2_with fail
    refine HA.out.mono ?_
    rintro e w' ⟨rfl, rfl⟩
    go_wp2_with fail
    refine HS.out.mono ?_
    rintro e w1 ⟨A', c', rfl, hO, hb⟩
    go_wp2
    go_ret2
    exact IntsIs.mk HR.out rfl (by rw [HL.out]; omega) hO hb
  · have HR := Lib.hid (squoOf_no (xs := xs) (ys := ys) (n := n) rfl hc)
    clear h h2 hn
    generalize squoOf xs ys n = r at *
    generalize askC xs ys n = v at *
    have hc0 : (v == 0) = false := by simpa using hc
    have hc1 : (v != 0) = true := by simpa using hc
    clear hc
    generalize xs.length = m at *
    generalize ys.length = m2 at *
    go_enter Try.func41, Try.ntmps41
    go_wp2_with fail
    refine HA.out.mono ?_
    rintro e w' ⟨rfl, rfl⟩
    go_wp2
    go_ret2
    exact IntsIs.nil_ HR.out (Below.refl _ _)
set_option maxHeartbeats 1000000 in
theorem implSeriesQuotient_any (A : Option Addr) (c : Nat) (xs : List Int) (A2 : Option Addr) (c2 : Nat) (ys : List Int) (n : Int) (w : World) (h : Arg w A c xs) (h2 : Arg w A2 c2 ys) (hn : I64 n) :
    Calls Try.prog 42 #[.slice A xs.length c, .slice A2 ys.length c2, .int .i64 n] w (IntsIs (squoOf xs ys n) w) := by
  have HA := Lib.hid (arePolys_any A c xs A2 c2 ys w h h2)
  cases hno : (polB xs && polB ys)
  · have HR := Lib.hid (squoOf_no (askC_no (xs := xs) (ys := ys) (n := n) hno) (by decide))
    rw [hno] at HA
    clear h h2 hno hn
    generalize squoOf xs ys n = r at *
    generalize xs.length = m at *
    generalize ys.length = m2 at *
    go_enter Try.func42, Try.ntmps42
    go_wp2_with fail
    refine HA.out.mono ?_
    rintro e w' ⟨rfl, rfl⟩
    go_wp2
    go_ret2
    exact IntsIs.nil_ HR.out (by (repeat (first | exact Below.refl _ _ | assumption | refine Below.setCell ?_ (by (try simp) <;> omega) _ | refine Below.alloc ?_ (by (try simp) <;> omega) _ | refine below_drewN_ ?_ | refine Below.drew ?_)))
  rw [hno] at HA
  obtain ⟨hs, hs2⟩ : polB xs = true ∧ polB ys = true := by simpa using hno
  cases g1 : inB 0 256 n
  · have HR := Lib.hid (squoOf_no (askC_off hno g1) (by decide))
    have G1 := Lib.hid g1
    clear hs hs2 h h2 hno g1 hn
    generalize squoOf xs ys n = r at *
    generalize xs.length = m at *
    generalize ys.length = m2 at *
    go_enter Try.func42, Try.ntmps42
    go_wp2_with fail
    refine HA.out.mono ?_
    rintro e w' ⟨rfl, rfl⟩
    go_wp2_with (go_at_call 49; refine (within_is _ _ _ _ _ G1.out).mono ?_; rintro e w' ⟨rfl, rfl⟩)
    go_ret2
    exact IntsIs.nil_ HR.out (by (repeat (first | exact Below.refl _ _ | assumption | refine Below.setCell ?_ (by (try simp) <;> omega) _ | refine Below.alloc ?_ (by (try simp) <;> omega) _ | refine below_drewN_ ?_ | refine Below.drew ?_)))
  have G1 := Lib.hid g1
  have hl := (pol_len hs2).1
  obtain ⟨b, o, rfl, hb, hcl⟩ := h2.sl (by omega)
  have hc0 : w.cell? ⟨b, o, none⟩ = some (.int .i64 (ys.getD 0 0)) := hcl 0 (by omega)
  have e0 : (w.alloc (.cells #[.slice A xs.length c, .slice (some ⟨b, o, none⟩) ys.length c2] 22)).cell? ⟨b, o, none⟩ = some (.int .i64 (ys.getD 0 0)) := (World.cell?_alloc_lt w _ _ (by exact hb)).trans hc0
  clear hcl hc0
  have hb0 : Below w.heap.size w (w.alloc (.cells #[.slice A xs.length c, .slice (some ⟨b, o, none⟩) ys.length c2] 22)) := by (repeat (first | exact Below.refl _ _ | assumption | refine Below.setCell ?_ (by (try simp) <;> omega) _ | refine Below.alloc ?_ (by (try simp) <;> omega) _ | refine below_drewN_ ?_ | refine Below.drew ?_))
  have hsz0 : w.heap.size ≤ (w.alloc (.cells #[.slice A xs.length c, .slice (some ⟨b, o, none⟩) ys.length c2] 22)).heap.size := by simp
  cases g2 : oddB (ys.getD 0 0)
  · have HR := Lib.hid (squoOf_no (askC_even hno g1 g2) (by decide))
    have G2 := Lib.hid g2
    clear hs hs2 h h2 hno g1 g2 hn hsz0
    generalize squoOf xs ys n = r at *
    generalize ys.getD 0 0 = y at *
    generalize xs.length = m at *
    generalize ys.length = m2 at *
    go_enter Try.func42, Try.ntmps42
    go_wp2_with fail
    refine HA.out.mono ?_
    rintro e w' ⟨rfl, rfl⟩
    go_wp2_with (first | (go_at_call 49; refine (within_is _ _ _ _ _ G1.out).mono ?_; rintro e w' ⟨rfl, rfl⟩) | (go_at_call 71; refine (isOdd_any _ _).mono ?_; rw [G2.out]; rintro e w' ⟨rfl, rfl⟩))
    go_ret2
    exact IntsIs.nil_ HR.out hb0
  · have hc := askC_ok hno g1 g2
    have G2 := Lib.hid g2
    obtain ⟨k, rfl, hk⟩ := nat_of_256 g1
    have HR := Lib.hid (squoOf_yes hc)
    have HL := Lib.hid (qL_length (fun k => xs.getD k 0) (fun k => ys.getD k 0) ys.length (invN (ys.getD 0 0) 5) k)
    have HS := Lib.hid (quotient_any A c xs _ c2 ys k _ (h.alloc (.cells #[.slice A xs.length c, .slice (some ⟨b, o, none⟩) ys.length c2] 22)) (h2.alloc _) (pol_smp hs) (pol_smp hs2) hl (by omega))
    clear hs hs2 h h2 hno g1 g2 hn hc
    generalize squoOf xs ys k = r at *
    generalize qL (fun k => xs.getD k 0) (fun k => ys.getD k 0) ys.length (invN (ys.getD 0 0) 5) k = q at *
    generalize ys.getD 0 0 = y at *
    generalize xs.length = m at *
    generalize ys.length = m2 at *
    go_enter Try.func42, Try.ntmps42
    go_wp2_with fail
    refine HA.out.mono ?_
    rintro e w' ⟨rfl, rfl⟩
    go_wp2_with (first | (go_at_call 49; refine (within_is _ _ _ _ _ G1.out).mono ?_; rintro e w' ⟨rfl, rfl⟩) | (go_at_call 71; refine (isOdd_any _ _).mono ?_; rw [G2.out]; rintro e w' ⟨rfl, rfl⟩))
    refine HS.out.mono ?_
    rintro e w1 ⟨A', c', rfl, hO, hb⟩
    go_wp2
    go_ret2
    exact IntsIs.mk HR.out rfl (by rw [HL.out]; omega) (hO.mono hsz0 (Nat.le_refl _)) (nxt hb0 hb hsz0)
def sinvOf (xs : List Int) (n : Int) : List Int × Int := squoOf [1] xs n
theorem one_in : ∀ x ∈ [(1 : Int)], -2147483648 ≤ x ∧ x ≤ 2147483647 := fun x h => by simp at h; omega
set_option maxHeartbeats 1000000 in
theorem specSeriesInverse_any (A : Option Addr) (c : Nat) (xs : List Int) (n : Int) (w : World) (h : Arg w A c xs) (hn : I64 n) :
    Calls Try.prog 43 #[.slice A xs.length c, .int .i64 n] w (IntsIs (sinvOf xs n) w) := by
  have HA := Lib.hid (l04Ask_any A c xs A c xs n w h h)
  rw [askC_one] at HA
  unfold sinvOf
  by_cases hc : askC [1] xs n = 0
  · obtain ⟨hs, hs2, g1⟩ := askC_inv hc
    obtain ⟨k, rfl, hk⟩ := nat_of_256 g1
    have HR := Lib.hid (squoOf_yes hc)
    have HL := Lib.hid (qL_length (fun k => [(1 : Int)].getD k 0) (fun k => xs.getD k 0) xs.length (invN (xs.getD 0 0) 5) k)
    have hb0 : Below w.heap.size w (w.alloc (.cells #[.int .i64 1] 2)) := by (repeat (first | exact Below.refl _ _ | assumption | refine Below.setCell ?_ (by (try simp) <;> omega) _ | refine Below.alloc ?_ (by (try simp) <;> omega) _ | refine below_drewN_ ?_ | refine Below.drew ?_))
    have HS := Lib.hid (l04Quotient_any _ 1 [1] A c xs k _ ((Own.one w 1).argOf (by simp) one_in) (h.alloc _) (pol_smp hs2) (pol_len hs2).1 (by omega))
    rw [hc] at HA
    clear hc hs hs2 g1 h hn
    generalize squoOf [1] xs k = r at *
    generalize qL (fun k => [(1 : Int)].getD k 0) (fun k => xs.getD k 0) xs.length (invN (xs.getD 0 0) 5) k = q at *
    generalize xs.length = m at *
    go_enter Try.func43, Try.ntmps43
    go_wp2_with fail
    refine HA.out.mono ?_
    rintro e w' ⟨rfl, rfl⟩
    go_wp2_with fail
    refine HS.out.mono ?_
    rintro e w1 ⟨A', c', rfl, hO, hb⟩
    go_wp2
    go_ret2
    exact IntsIs.mk HR.out rfl (by rw [HL.out]; omega) (hO.mono (by simp) (Nat.le_refl _)) (nxt hb0 hb (by simp))
  · have HR := Lib.hid (squoOf_no (xs := [1]) (ys := xs) (n := n) rfl hc)
    clear h hn
    generalize squoOf [1] xs n = r at *
    generalize askC [1] xs n = v at *
    have hc0 : (v == 0) = false := by simpa using hc
    have hc1 : (v != 0) = true := by simpa using hc
    clear hc
    generalize xs.length = m at *
    go_enter Try.func43, Try.ntmps43
    go_wp2_with fail
    refine HA.out.mono ?_
    rintro e w' ⟨rfl, rfl⟩
    go_wp2
    go_ret2
    exact IntsIs.nil_ HR.out (Below.refl _ _)
theorem implSeriesInverse_any (A : Option Addr) (c : Nat) (xs : List Int) (n : Int) (w : World) (h : Arg w A c xs) (hn : I64 n) :
    Calls Try.prog 44 #[.slice A xs.length c, .int .i64 n] w (IntsIs (sinvOf xs n) w) := by
  have HS := Lib.hid (implSeriesQuotient_any _ 1 [1] A c xs n _ ((Own.one w 1).argOf (by simp) one_in) (h.alloc _) hn)
  have hb0 : Below w.heap.size w (w.alloc (.cells #[.int .i64 1] 2)) := by (repeat (first | exact Below.refl _ _ | assumption | refine Below.setCell ?_ (by (try simp) <;> omega) _ | refine Below.alloc ?_ (by (try simp) <;> omega) _ | refine below_drewN_ ?_ | refine Below.drew ?_))
  unfold sinvOf
  clear h hn
  generalize squoOf [1] xs n = r at *
  generalize xs.length = m at *
  go_enter Try.func44, Try.ntmps44
  go_wp2_with fail
  refine HS.out.mono ?_
  rintro e w1 ⟨ys, code, A', c', rfl, hq, hl, hO, hb⟩
  have HQ := Lib.hid hq
  clear hq
  go_wp2
  go_ret2
  exact IntsIs.mk HQ.out rfl hl (hO.mono (by simp) (Nat.le_refl _)) (nxt hb0 hb (by simp))

end Go.Proofs.Ytppfcmhbbjgkfaa
