/- Walks: ResponseOf. -/
import Derived.Test.YtfgdkecmhgkpfaaTc
import Derived.Test.YtfgdkecmhgkpfaaVp
import Derived.Deep.RegionHeld3
namespace Go.Proofs.Ytfgdkecmhgkpfaa
open Go.RowKit
set_option linter.unusedVariables false
set_option linter.unusedSimpArgs false

def respOf (xs ys : List Int) (n : Int) : List Int × Int := if trB xs ys then if inB 0 4000 n then (qL (fun k => xs.getD k 0) (fun k => ys.getD k 0) ys.length (invN (ys.getD 0 0) 5) n.toNat, 0) else ([], 2) else ([], 1)
theorem respOf_no {xs ys : List Int} {n : Int} (h : trB xs ys = false) : ([], 1) = respOf xs ys n := by simp [respOf, h]
theorem respOf_off {xs ys : List Int} {n : Int} (h : trB xs ys = true) (h' : inB 0 4000 n = false) : ([], 2) = respOf xs ys n := by simp [respOf, h, h']
theorem respOf_yes {xs ys : List Int} {n : Nat} (h : trB xs ys = true) (h' : inB 0 4000 (n : Int) = true) : (qL (fun k => xs.getD k 0) (fun k => ys.getD k 0) ys.length (invN (ys.getD 0 0) 5) n, 0) = respOf xs ys n := by simp [respOf, h, h']
theorem nat_of_4000 {n : Int} (h : inB 0 4000 n = true) : ∃ k : Nat, n = k ∧ k ≤ 4000 := by
  obtain ⟨h1, h2⟩ := inB_true.1 h
  exact ⟨n.toNat, by omega, by omega⟩

set_option maxHeartbeats 1000000 in
theorem specResponseOf_any (A : Option Addr) (c : Nat) (xs : List Int) (B : Option Addr) (d : Nat) (ys : List Int) (n : Int) (w : World) (h : Arg w A c xs) (h2 : Arg w B d ys) (hn : I64 n) :
    Calls Try.prog 14 #[.agg #[.slice A xs.length c, .slice B ys.length d], .int .i64 n] w (IntsIs (respOf xs ys n) w) := by
  have HA := Lib.hid (l05Ok_any w.heap.size A c xs B d ys _ (Bx.new w A xs.length c B ys.length d 27) (h.alloc _) (h2.alloc _))
  have hb0 : Below w.heap.size w (w.alloc (.cells #[.slice A xs.length c, .slice B ys.length d] 27)) := by (repeat (first | exact Below.refl _ _ | assumption | refine Below.setCell ?_ (by (try simp) <;> omega) _ | refine Below.alloc ?_ (by (try simp) <;> omega) _ | refine below_drewN_ ?_ | refine Below.drew ?_))
  cases hs : trB xs ys
  · have HR := Lib.hid (respOf_no (n := n) hs)
    rw [hs] at HA
    clear hs h h2 hn
    generalize respOf xs ys n = r at *
    generalize xs.length = m at *
    generalize ys.length = m2 at *
    go_enter Try.func14, Try.ntmps14
    go_wp2_with fail
    refine HA.out.mono ?_
    rintro e w' ⟨rfl, rfl⟩
    go_wp2
    go_ret2
    exact IntsIs.nil_ HR.out hb0
  rw [hs] at HA
  cases g1 : inB 0 4000 n
  · have HR := Lib.hid (respOf_off hs g1)
    have G1 := Lib.hid g1
    clear hs h h2 hn g1
    generalize respOf xs ys n = r at *
    generalize xs.length = m at *
    generalize ys.length = m2 at *
    go_enter Try.func14, Try.ntmps14
    go_wp2_with fail
    refine HA.out.mono ?_
    rintro e w' ⟨rfl, rfl⟩
    go_wp2_with (go_at_call 36; refine (l00In_is _ _ _ _ _ G1.out).mono ?_; rintro e w' ⟨rfl, rfl⟩)
    go_ret2
    exact IntsIs.nil_ HR.out hb0
  · have G1 := Lib.hid g1
    obtain ⟨k, rfl, hk⟩ := nat_of_4000 g1
    obtain ⟨hs1, hs2, hs3⟩ := trB_inv hs
    have HR := Lib.hid (respOf_yes hs g1)
    have HL := Lib.hid (qL_length (fun k => xs.getD k 0) (fun k => ys.getD k 0) ys.length (invN (ys.getD 0 0) 5) k)
    have HS := Lib.hid (l04Quotient_any A c xs B d ys k _ (h.alloc (.cells #[.slice A xs.length c, .slice B ys.length d] 27)) (h2.alloc _) (pol_smp hs2) (pol_len hs2).1 (by omega))
    clear hs h h2 hn g1 hs1 hs2 hs3
    generalize respOf xs ys k = r at *
    generalize qL (fun k => xs.getD k 0) (fun k => ys.getD k 0) ys.length (invN (ys.getD 0 0) 5) k = q at *
    generalize xs.length = m at *
    generalize ys.length = m2 at *
    go_enter Try.func14, Try.ntmps14
    go_wp2_with fail
    refine HA.out.mono ?_
    rintro e w' ⟨rfl, rfl⟩
    go_wp2_with (go_at_call 36; refine (l00In_is _ _ _ _ _ G1.out).mono ?_; rintro e w' ⟨rfl, rfl⟩)
    refine HS.out.mono ?_
    rintro e w1 ⟨A', c', rfl, hO, hb⟩
    go_wp2
    go_ret2
    exact IntsIs.mk HR.out rfl (by rw [HL.out]; omega) (hO.mono (by simp) (Nat.le_refl _)) (nxt hb0 hb (by simp))
set_option maxHeartbeats 1000000 in
theorem implResponseOf_any (A : Option Addr) (c : Nat) (xs : List Int) (B : Option Addr) (d : Nat) (ys : List Int) (n : Int) (w : World) (h : Arg w A c xs) (h2 : Arg w B d ys) (hn : I64 n) :
    Calls Try.prog 15 #[.agg #[.slice A xs.length c, .slice B ys.length d], .int .i64 n] w (IntsIs (respOf xs ys n) w) := by
  have hb0 : Below w.heap.size w (w.alloc (.cells #[.slice A xs.length c, .slice B ys.length d] 27)) := by (repeat (first | exact Below.refl _ _ | assumption | refine Below.setCell ?_ (by (try simp) <;> omega) _ | refine Below.alloc ?_ (by (try simp) <;> omega) _ | refine below_drewN_ ?_ | refine Below.drew ?_))
  have HA := Lib.hid (isTransfer_any A c xs B d ys _ (h.below hb0) (h2.below hb0))
  have HX := Lib.hid (Bx.new w A xs.length c B ys.length d 27)
  cases hs : trB xs ys
  · have HR := Lib.hid (respOf_no (n := n) hs)
    rw [hs] at HA
    clear hs h h2 hn
    generalize respOf xs ys n = r at *
    generalize xs.length = m at *
    generalize ys.length = m2 at *
    go_enter Try.func15, Try.ntmps15
    go_wp2_with fail
    refine HA.out.mono ?_
    rintro e w' ⟨rfl, hb⟩
    go_wp2
    go_ret2
    exact IntsIs.nil_ HR.out (nxt hb0 hb (by simp))
  rw [hs] at HA
  cases g1 : inB 0 4000 n
  · have HR := Lib.hid (respOf_off hs g1)
    have G1 := Lib.hid g1
    clear hs h h2 hn g1
    generalize respOf xs ys n = r at *
    generalize xs.length = m at *
    generalize ys.length = m2 at *
    go_enter Try.func15, Try.ntmps15
    go_wp2_with fail
    refine HA.out.mono ?_
    rintro e w' ⟨rfl, hb⟩
    go_wp2_with fail
    refine (isCount_any _ _).mono ?_
    rw [G1.out]
    rintro e w' ⟨rfl, rfl⟩
    go_wp2
    go_ret2
    exact IntsIs.nil_ HR.out (nxt hb0 hb (by simp))
  · have G1 := Lib.hid g1
    obtain ⟨k, rfl, hk⟩ := nat_of_4000 g1
    obtain ⟨hs1, hs2, hs3⟩ := trB_inv hs
    have HR := Lib.hid (respOf_yes hs g1)
    have HL := Lib.hid (qL_length (fun k => xs.getD k 0) (fun k => ys.getD k 0) ys.length (invN (ys.getD 0 0) 5) k)
    have HS : Hid (∀ wx, Below w.heap.size w wx → Calls Try.prog 40 #[.slice A xs.length c, .slice B ys.length d, .int .i64 k] wx (Fresh (qL (fun k => xs.getD k 0) (fun k => ys.getD k 0) ys.length (invN (ys.getD 0 0) 5) k) wx)) :=
      fun wx hx => quotient_any A c xs B d ys k wx (h.below hx) (h2.below hx) (pol_smp hs1) (pol_smp hs2) (pol_len hs2).1 (by omega)
    clear hs h h2 hn g1 hs1 hs2 hs3
    generalize respOf xs ys k = r at *
    generalize qL (fun k => xs.getD k 0) (fun k => ys.getD k 0) ys.length (invN (ys.getD 0 0) 5) k = q at *
    generalize xs.length = m at *
    generalize ys.length = m2 at *
    go_enter Try.func15, Try.ntmps15
    go_wp2_with fail
    refine HA.out.mono ?_
    rintro e w1 ⟨rfl, hb1⟩
    have hbb := nxt hb0 hb1 (by simp)
    obtain ⟨e0, e1⟩ := HX.out.below hb1 (by simp)
    go_wp2_with fail
    refine (isCount_any _ _).mono ?_
    rw [G1.out]
    rintro e w' ⟨rfl, rfl⟩
    go_wp2_with fail
    refine (HS.out _ hbb).mono ?_
    rintro e w2 ⟨A', c', rfl, hO, hb⟩
    go_wp2
    go_ret2
    exact IntsIs.mk HR.out rfl (by rw [HL.out]; omega) (hO.mono hbb.size (Nat.le_refl _)) (nxt hbb hb hbb.size)

end Go.Proofs.Ytfgdkecmhgkpfaa
