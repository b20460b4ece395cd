/- Walks: FilterSignal, the program. -/
import Derived.Test.YtfgdkecmhgkpfaaTe
namespace Go.Proofs.Ytfgdkecmhgkpfaa
open Go.RowKit
set_option linter.unusedVariables false
set_option linter.unusedSimpArgs false

set_option maxHeartbeats 2000000 in
theorem implFilterSignal_any (A : Option Addr) (c : Nat) (xs : List Int) (B : Option Addr) (d : Nat) (ys : List Int) (A2 : Option Addr) (c2 : Nat) (zs : List Int) (w : World) (h : Arg w A c xs) (h2 : Arg w B d ys) (h3 : Arg w A2 c2 zs) :
    Calls Try.prog 22 #[.agg #[.slice A xs.length c, .slice B ys.length d], .slice A2 zs.length c2] w (IntsIs (filterOf xs ys zs) w) := by
  have hb0 : Below w.heap.size w (w.alloc (.cells #[.slice A xs.length c, .slice B ys.length d] 27)) := by (repeat (first | exact Below.refl _ _ | assumption | refine Below.setCell ?_ (by (try simp) <;> omega) _ | refine Below.alloc ?_ (by (try simp) <;> omega) _ | refine below_drewN_ ?_ | refine Below.drew ?_))
  have HA := Lib.hid (isTransfer_any A c xs B d ys _ (h.below hb0) (h2.below hb0))
  have HX := Lib.hid (Bx.new w A xs.length c B ys.length d 27)
  have HB : Hid (∀ wx, Below w.heap.size w wx → Calls Try.prog 43 #[.slice A2 zs.length c2] wx fun e w' => e = .returned (.bool (sigB zs)) ∧ wx = w') :=
    fun wx hx => isSignal_any A2 c2 zs _ _ (h3.below hx).sl (by have := h3.len; omega)
  have hl3 := h3.len
  cases hs : trB xs ys
  · have HR := Lib.hid (filterOf_no (zs := zs) (.inl hs))
    rw [hs] at HA
    clear hs h h2 h3 HB
    generalize filterOf xs ys zs = r at *
    generalize xs.length = m at *
    generalize ys.length = m2 at *
    generalize zs.length = m3 at *
    go_enter Try.func22, Try.ntmps22
    go_wp2_with fail
    refine HA.out.mono ?_
    rintro e w' ⟨rfl, hb⟩
    go_wp2
    go_ret2
    exact IntsIs.nil_ HR.out (nxt hb0 hb (by simp))
  rw [hs] at HA
  cases hs3 : sigB zs
  · have HR := Lib.hid (filterOf_no (xs := xs) (ys := ys) (.inr hs3))
    rw [hs3] at HB
    clear hs hs3 h h2 h3
    generalize filterOf xs ys zs = r at *
    generalize xs.length = m at *
    generalize ys.length = m2 at *
    generalize zs.length = m3 at *
    go_enter Try.func22, Try.ntmps22
    go_wp2_with fail
    refine HA.out.mono ?_
    rintro e w1 ⟨rfl, hb⟩
    have hbb := nxt hb0 hb (by simp)
    go_wp2_with fail
    refine (HB.out _ hbb).mono ?_
    rintro e w' ⟨rfl, rfl⟩
    go_wp2
    go_ret2
    exact IntsIs.nil_ HR.out hbb
  · rw [hs3] at HB
    have HR := Lib.hid (filterOf_yes' hs hs3)
    obtain ⟨t1, t2, t3⟩ := trB_inv hs
    obtain ⟨s1, s2⟩ := sigB_inv hs3
    have HL := Lib.hid (qL_length (fun k => (tab zs.length (fun i => fIn (fun k => xs.getD k 0) (fun k => zs.getD k 0) i (min (i + 1) xs.length))).getD k 0) (fun k => ys.getD k 0) ys.length (invN (ys.getD 0 0) 5) zs.length)
    have CL : Hid ((tab zs.length (fun i => fIn (fun k => xs.getD k 0) (fun k => zs.getD k 0) i (min (i + 1) xs.length))).length = zs.length) := tab_length _ _
    have CI : Hid (∀ x ∈ tab zs.length (fun i => fIn (fun k => xs.getD k 0) (fun k => zs.getD k 0) i (min (i + 1) xs.length)), -2147483648 ≤ x ∧ x ≤ 2147483647) := tab_all fun k _ => fIn_in _ _ _ _
    have CV : Hid (∀ wx, Below w.heap.size w wx → Calls Try.prog 44 #[.slice A xs.length c, .slice A2 zs.length c2, .int .i64 zs.length] wx (Fresh (tab zs.length (fun i => fIn (fun k => xs.getD k 0) (fun k => zs.getD k 0) i (min (i + 1) xs.length))) wx)) :=
      fun wx hx => convolve_any A c xs A2 c2 zs zs.length wx (h.below hx) (h3.below hx) (pol_smp t1) (.of s2) hl3
    generalize tab zs.length (fun i => fIn (fun k => xs.getD k 0) (fun k => zs.getD k 0) i (min (i + 1) xs.length)) = cv at *
    have QT : Hid (∀ wx A1 c1 lo, Below w.heap.size w wx → Own wx lo wx.heap.size A1 c1 cv → Calls Try.prog 40 #[.slice A1 cv.length c1, .slice B ys.length d, .int .i64 zs.length] wx (Fresh (qL (fun k => cv.getD k 0) (fun k => ys.getD k 0) ys.length (invN (ys.getD 0 0) 5) zs.length) wx)) :=
      fun wx A1 c1 lo hx hO => quotient_any A1 c1 cv B d ys zs.length wx (hO.argOf (by rw [CL.out]; omega) CI.out) (h2.below hx) (.all CI.out) (pol_smp t2) (pol_len t2).1 hl3
    clear hs hs3 h h2 h3 t1 t2 t3 s1 s2
    generalize filterOf xs ys zs = r at *
    generalize qL (fun k => cv.getD k 0) (fun k => ys.getD k 0) ys.length (invN (ys.getD 0 0) 5) zs.length = q at *
    generalize xs.length = m at *
    generalize ys.length = m2 at *
    generalize zs.length = m3 at *
    go_enter Try.func22, Try.ntmps22
    go_wp2_with fail
    refine HA.out.mono ?_
    rintro e w1 ⟨rfl, hb⟩
    have hbb := nxt hb0 hb (by simp)
    have HX1 := Lib.hid (HX.out.below hb (by simp))
    clear hb hb0 HX HA
    go_wp2_with fail
    refine (HB.out _ hbb).mono ?_
    rintro e w' ⟨rfl, rfl⟩
    go_wp2_with fail
    have hzw := hbb.size
    go_region_held3 (fun w' => Below w1.heap.size w1 w' ∧ w'.cell? ⟨w.heap.size, 0, none⟩ = some (.slice A m c) ∧ w'.cell? ⟨w.heap.size, 1, none⟩ = some (.slice B m2 d))
      ((first | assumption | (refine Hid.out ?_; assumption) | (exact bx1_keep HX1 (Below.drew (Below.refl _ _)))))
      ((first | (go_at_call 45; refine (size_any _ _ _ _).mono ?_; rintro e w' ⟨rfl, rfl⟩) | (go_at_call 44; refine (CV.out _ (nxt hbb (And.left (by assumption : Below w1.heap.size w1 _ ∧ _)) hzw)).mono ?_; rintro e wc ⟨Ac, cc, rfl, Oc, hbc⟩; have hSc := Lib.hid (bx1_call HX1 (by assumption) hbc); have hWc := hSc.out.1; clear hbc) | (go_at_call 40; refine (QT.out _ _ _ _ (nxt hbb hWc hzw) Oc).mono ?_; rintro e wq ⟨Aq, cq, rfl, Oq, hbq⟩; have hSq := Lib.hid (bx1_call HX1 hSc.out hbq))))
    have hbq2 := nxt hbb hSq.out.1 hzw
    have hzq := hWc.size
    go_wp2
    go_ret2
    exact IntsIs.mk HR.out rfl (by rw [HL.out]; omega) (Oq.mono (by omega) (Nat.le_refl _)) hbq2

end Go.Proofs.Ytfgdkecmhgkpfaa
