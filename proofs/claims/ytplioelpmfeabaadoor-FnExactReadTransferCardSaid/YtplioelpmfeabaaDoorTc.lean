/- Walks: valid and equal transfer functions. -/
import Derived.Test.YtplioelpmfeabaaDoorTa
import Derived.Test.YtplioelpmfeabaaDoorVo
import Derived.Test.YtplioelpmfeabaaDoorVc
namespace Go.Proofs.YtplioelpmfeabaaDoor
open Go.RowKit
set_option linter.unusedVariables false
set_option linter.unusedSimpArgs false

/-- A valid transfer function. -/
def trB (xs ys : List Int) : Bool := polB xs && polB ys && (ys.getD 0 0 == 1)
theorem trB_no1 {xs ys : List Int} (h : polB xs = false) : trB xs ys = false := by simp [trB, h]
theorem trB_no2 {xs ys : List Int} (h : polB ys = false) : trB xs ys = false := by simp [trB, h]
theorem trB_no {xs ys : List Int} (h : (polB xs && polB ys) = false) : trB xs ys = false := by unfold trB; rw [h]; rfl
theorem trB_is {xs ys : List Int} (h : (polB xs && polB ys) = true) : trB xs ys = (ys.getD 0 0 == 1) := by unfold trB; rw [h, Bool.true_and]
theorem trB_inv {xs ys : List Int} (h : trB xs ys = true) : polB xs = true ∧ polB ys = true ∧ ys.getD 0 0 = 1 := by
  simp [trB] at h
  exact ⟨h.1.1, h.1.2, by simpa using h.2⟩

set_option maxHeartbeats 1000000 in
theorem l05Ok_any (g : Nat) (A : Option Addr) (c : Nat) (xs : List Int) (B : Option Addr) (d : Nat) (ys : List Int) (w : World) (hx : Bx w g A xs.length c B ys.length d) (h : Arg w A c xs) (h2 : Arg w B d ys) :
    Calls Tryd.prog 64 #[.pointer (some ⟨g, 0, none⟩)] w fun e w' => e = .returned (.bool (trB xs ys)) ∧ w = w' := by
  have HA := Lib.hid (l04Ok_any A c xs w _ h.sl (by have := h.len; omega))
  have HA2 := Lib.hid (l04Ok_any B d ys w _ h2.sl (by have := h2.len; omega))
  obtain ⟨e0, e1⟩ := hx
  cases hs : polB xs
  · have HR := Lib.hid (trB_no1 (ys := ys) hs)
    rw [hs] at HA
    clear hs h h2 HA2
    generalize trB xs ys = r at *
    obtain rfl := HR.out
    generalize xs.length = n at *
    generalize ys.length = m at *
    go_enter Tryd.func64, Tryd.ntmps64
    go_wp2_with fail
    refine HA.out.mono ?_
    rintro e w' ⟨rfl, rfl⟩
    go_wp2
    go_ret
    exact ⟨rfl, rfl⟩
  rw [hs] at HA
  cases hs2 : polB ys
  · have HR := Lib.hid (trB_no2 (xs := xs) hs2)
    rw [hs2] at HA2
    clear hs hs2 h h2
    generalize trB xs ys = r at *
    obtain rfl := HR.out
    generalize xs.length = n at *
    generalize ys.length = m at *
    go_enter Tryd.func64, Tryd.ntmps64
    go_wp2_with fail
    refine HA.out.mono ?_
    rintro e w' ⟨rfl, rfl⟩
    go_wp2_with fail
    refine HA2.out.mono ?_
    rintro e w' ⟨rfl, rfl⟩
    go_wp2
    go_ret
    exact ⟨rfl, rfl⟩
  · have HR := Lib.hid (trB_is (xs := xs) (ys := ys) (by rw [hs, hs2]; rfl))
    rw [hs2] at HA2
    have hl := (pol_len hs2).1
    obtain ⟨b, o, rfl, _, hc⟩ := h2.sl (by omega)
    have e2 : w.cell? ⟨b, o, none⟩ = some (.int .i64 (ys.getD 0 0)) := hc 0 (by omega)
    clear hs hs2 h h2 hc
    generalize trB xs ys = r at *
    generalize ys.getD 0 0 = y at *
    obtain rfl := HR.out
    generalize xs.length = n at *
    generalize ys.length = m at *
    go_enter Tryd.func64, Tryd.ntmps64
    go_wp2_with fail
    refine HA.out.mono ?_
    rintro e w' ⟨rfl, rfl⟩
    go_wp2_with fail
    refine HA2.out.mono ?_
    rintro e w' ⟨rfl, rfl⟩
    go_wp2
    go_ret
    exact ⟨rfl, rfl⟩
theorem arePolysAt_any (g : Nat) (A : Option Addr) (c : Nat) (xs : List Int) (A2 : Option Addr) (c2 : Nat) (ys : List Int) (w : World) (hg : w.heap.size = g) (h : Arg w A c xs) (h2 : Arg w A2 c2 ys) :
    Calls Tryd.prog 83 #[.slice (some ⟨g, 0, none⟩) 2 2] (w.alloc (.cells #[.slice A xs.length c, .slice A2 ys.length c2] 40)) fun e w' => e = .returned (.bool (polB xs && polB ys)) ∧ w.alloc (.cells #[.slice A xs.length c, .slice A2 ys.length c2] 40) = w' := by
  subst hg
  exact arePolys_any A c xs A2 c2 ys w h h2
set_option maxHeartbeats 1000000 in
theorem isTransfer_any (A : Option Addr) (c : Nat) (xs : List Int) (B : Option Addr) (d : Nat) (ys : List Int) (w : World) (h : Arg w A c xs) (h2 : Arg w B d ys) :
    Calls Tryd.prog 66 #[.agg #[.slice A xs.length c, .slice B ys.length d]] w fun e w' => e = .returned (.bool (trB xs ys)) ∧ Below w.heap.size w w' := by
  have HA := Lib.hid (arePolysAt_any (w.heap.size + 1) A c xs B d ys (w.alloc (.cells #[.slice A xs.length c, .slice B ys.length d] 52)) (by simp) (h.alloc _) (h2.alloc _))
  cases hs : (polB xs && polB ys)
  · have HR := Lib.hid (trB_no hs)
    rw [hs] at HA
    clear hs h h2
    generalize trB xs ys = r at *
    obtain rfl := HR.out
    generalize xs.length = n at *
    generalize ys.length = m at *
    go_enter Tryd.func66, Tryd.ntmps66
    go_wp2_with fail
    refine HA.out.mono ?_
    rintro e w' ⟨rfl, rfl⟩
    go_wp2
    go_ret
    exact ⟨rfl, by (repeat (first | exact Below.refl _ _ | assumption | refine Below.setCell ?_ (by (try simp) <;> omega) _ | refine Below.alloc ?_ (by (try simp) <;> omega) _ | refine below_drewN_ ?_ | refine Below.drew ?_))⟩
  · have HR := Lib.hid (trB_is hs)
    rw [hs] at HA
    obtain ⟨hs1, hs2⟩ : polB xs = true ∧ polB ys = true := by simpa using hs
    have hl := (pol_len hs2).1
    obtain ⟨b, o, rfl, hb, hc⟩ := h2.sl (by omega)
    have hc0 : w.cell? ⟨b, o, none⟩ = some (.int .i64 (ys.getD 0 0)) := hc 0 (by omega)
    have e2 : ((w.alloc (.cells #[.slice A xs.length c, .slice (some ⟨b, o, none⟩) ys.length d] 52)).alloc (.cells #[.slice A xs.length c, .slice (some ⟨b, o, none⟩) ys.length d] 40)).cell? ⟨b, o, none⟩ = some (.int .i64 (ys.getD 0 0)) :=
      (World.cell?_alloc_lt _ _ _ (by simp; exact Nat.lt_succ_of_lt hb)).trans ((World.cell?_alloc_lt w _ _ (by exact hb)).trans hc0)
    clear hs hs1 hs2 h h2 hc hc0
    generalize trB xs ys = r at *
    generalize ys.getD 0 0 = y at *
    obtain rfl := HR.out
    generalize xs.length = n at *
    generalize ys.length = m at *
    go_enter Tryd.func66, Tryd.ntmps66
    go_wp2_with fail
    refine HA.out.mono ?_
    rintro e w' ⟨rfl, rfl⟩
    go_wp2
    go_ret
    exact ⟨rfl, by (repeat (first | exact Below.refl _ _ | assumption | refine Below.setCell ?_ (by (try simp) <;> omega) _ | refine Below.alloc ?_ (by (try simp) <;> omega) _ | refine below_drewN_ ?_ | refine Below.drew ?_))⟩

end Go.Proofs.YtplioelpmfeabaaDoor
