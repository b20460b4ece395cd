/- Walks: FeedbackTransfer. -/
import Derived.Test.YtfgdkecmhgkpfaaTh
import Derived.Test.YtfgdkecmhgkpfaaVo
import Derived.Test.YtfgdkecmhgkpfaaTf
namespace Go.Proofs.Ytfgdkecmhgkpfaa
open Go.RowKit
set_option linter.unusedVariables false
set_option linter.unusedSimpArgs false

def feedR (num den : List Int) : (List Int × List Int) × Int := if den.getD 0 0 = 1 then makeR num den else (([], []), 7)
theorem feed_no {num den : List Int} {r : (List Int × List Int) × Int} (h : feedR num den = r) (h' : ¬ den.getD 0 0 = 1) : (([], []), 7) = r := by
  rw [← h]; exact (if_neg h').symm
theorem feed_yes {num den : List Int} {r : (List Int × List Int) × Int} (h : feedR num den = r) (h' : den.getD 0 0 = 1) : makeR num den = r := by
  rw [← h]; exact (if_pos h').symm
def feedbackOf (xs ys us vs : List Int) : (List Int × List Int) × Int := twoT xs ys us vs (feedR (mulL xs vs) (trimL (addT (mulL ys vs) (-1) (mulL xs us))))
set_option maxRecDepth 100000 in
set_option maxHeartbeats 8000000 in
theorem specFeedbackTransfer_any (A : Option Addr) (c : Nat) (xs : List Int) (B : Option Addr) (d : Nat) (ys : List Int) (A2 : Option Addr) (c2 : Nat) (us : List Int) (B2 : Option Addr) (d2 : Nat) (vs : List Int) (w : World) (h : Arg w A c xs) (h2 : Arg w B d ys) (h3 : Arg w A2 c2 us) (h4 : Arg w B2 d2 vs) :
    Calls Try.prog 28 #[.agg #[.slice A xs.length c, .slice B ys.length d], .agg #[.slice A2 us.length c2, .slice B2 vs.length d2]] w (TIs (feedbackOf xs ys us vs) w) := by
  obtain ⟨W0, hW0⟩ : ∃ W0, W0 = (((w.alloc (.cells #[.slice A xs.length c, .slice B ys.length d] 27)).alloc (.cells #[.slice A2 us.length c2, .slice B2 vs.length d2] 27)).alloc (.cells #[.slice none 0 0, .slice none 0 0] 27)) := ⟨_, rfl⟩
  have hb0 : Below w.heap.size w W0 := by rw [hW0]; (repeat (first | exact Below.refl _ _ | assumption | refine Below.setCell ?_ (by (try simp) <;> omega) _ | refine Below.alloc ?_ (by (try simp) <;> omega) _ | refine below_drewN_ ?_ | refine Below.drew ?_))
  have hz0 : w.heap.size + 3 ≤ W0.heap.size := by rw [hW0]; simp
  have hg0 : Hid (W0.heap.size = w.heap.size + 1 + 1 + 1) := by rw [hW0]; exact Lib.hid (by simp)
  have P : Hid (Bx W0 w.heap.size A xs.length c B ys.length d) := by rw [hW0]; exact Lib.hid (by constructor <;> go_simp)
  have Q : Hid (Bx W0 (w.heap.size + 1) A2 us.length c2 B2 vs.length d2) := by rw [hW0]; exact Lib.hid (by constructor <;> go_simp)
  have r0 : W0.cell? ⟨w.heap.size + 1 + 1, 0, none⟩ = some (.slice none 0 0) := by rw [hW0]; go_simp
  have r1 : W0.cell? ⟨w.heap.size + 1 + 1, 1, none⟩ = some (.slice none 0 0) := by rw [hW0]; go_simp
  have f0 : W0.frozen? ⟨w.heap.size + 1 + 1, 0, none⟩ = false := by rw [hW0]; go_simp
  have f1 : W0.frozen? ⟨w.heap.size + 1 + 1, 1, none⟩ = false := by rw [hW0]; go_simp
  have HW0 := Lib.hid hW0
  clear hW0
  have HA := Lib.hid (l05Ok_any _ A c xs B d ys W0 P.out (h.below hb0) (h2.below hb0))
  have HB := Lib.hid (l05Ok_any _ A2 c2 us B2 d2 vs W0 Q.out (h3.below hb0) (h4.below hb0))
  cases hs : trB xs ys
  · have HR : Hid ((([], []), 1) = feedbackOf xs ys us vs) := twoT_no (by rw [hs]; rfl)
    rw [hs] at HA
    clear hs h h2 h3 h4 HB P Q hg0
    generalize feedbackOf xs ys us vs = r at *
    generalize xs.length = n at *
    generalize ys.length = m at *
    generalize us.length = n2 at *
    generalize vs.length = m2 at *
    go_enter Try.func28, Try.ntmps28
    go_wp2_with fail
    rw [← HW0.out]
    refine HA.out.mono ?_
    rintro e w' ⟨rfl, rfl⟩
    go_wp2
    refine bodyPost_ret (v := .tuple #[.agg #[.slice none 0 0, .slice none 0 0], .int .i64 1]) (by simp [results, Try.results28, go_sem, r0, r1, f0, f1]) rfl ?_
    exact TIs.nil_ HR.out ((hb0.setCell (by (first | (simp; done) | omega | (simp; omega))) _).setCell (by (first | (simp; done) | omega | (simp; omega))) _)
  rw [hs] at HA
  cases hs2 : trB us vs
  · have HR : Hid ((([], []), 1) = feedbackOf xs ys us vs) := twoT_no (by rw [hs, hs2]; rfl)
    rw [hs2] at HB
    clear hs hs2 h h2 h3 h4 P Q hg0
    generalize feedbackOf xs ys us vs = r at *
    generalize xs.length = n at *
    generalize ys.length = m at *
    generalize us.length = n2 at *
    generalize vs.length = m2 at *
    go_enter Try.func28, Try.ntmps28
    go_wp2_with fail
    rw [← HW0.out]
    refine HA.out.mono ?_
    rintro e w' ⟨rfl, rfl⟩
    go_wp2_with fail
    refine HB.out.mono ?_
    rintro e w' ⟨rfl, rfl⟩
    go_wp2
    refine bodyPost_ret (v := .tuple #[.agg #[.slice none 0 0, .slice none 0 0], .int .i64 1]) (by simp [results, Try.results28, go_sem, r0, r1, f0, f1]) rfl ?_
    exact TIs.nil_ HR.out ((hb0.setCell (by (first | (simp; done) | omega | (simp; omega))) _).setCell (by (first | (simp; done) | omega | (simp; omega))) _)
  rw [hs2] at HB
  obtain ⟨v1, v2, -⟩ := trB_inv hs
  obtain ⟨v3, v4, -⟩ := trB_inv hs2
  have HR : Hid (feedR (mulL xs vs) (trimL (addT (mulL ys vs) (-1) (mulL xs us))) = feedbackOf xs ys us vs) := twoT_yes hs hs2
  have Ma : Hid (∀ wx, Below w.heap.size w wx → Calls Try.prog 47 #[.slice B ys.length d, .slice B2 vs.length d2] wx (Fresh (mulL ys vs) wx)) :=
    fun wx hx => l04Mul_any B d ys B2 d2 vs wx (h2.below hx) (h4.below hx) (by have := mulL_room v2 v4; omega)
  have La : Hid ((mulL ys vs).length ≤ 130) := mulL_le130 v2 v4
  have Ia := Lib.hid (mulL_in ys vs)
  have Ta := Lib.hid (mulL_trimmed ys vs)
  have Mb : Hid (∀ wx, Below w.heap.size w wx → Calls Try.prog 47 #[.slice A xs.length c, .slice A2 us.length c2] wx (Fresh (mulL xs us) wx)) :=
    fun wx hx => l04Mul_any A c xs A2 c2 us wx (h.below hx) (h3.below hx) (by have := mulL_room v1 v3; omega)
  have Lb : Hid ((mulL xs us).length ≤ 130) := mulL_le130 v1 v3
  have Ib := Lib.hid (mulL_in xs us)
  have Tb := Lib.hid (mulL_trimmed xs us)
  have Ls : Hid ((addT (mulL ys vs) (-1) (mulL xs us)).length ≤ 130 ∧ (trimL (addT (mulL ys vs) (-1) (mulL xs us))).length ≤ 130) := by
    have a1 := addT_length (mulL ys vs) (-1) (mulL xs us)
    have a2 := trimL_le (addT (mulL ys vs) (-1) (mulL xs us))
    have a3 := La.out
    have a4 := Lb.out
    exact ⟨by omega, by omega⟩
  have Js := Lib.hid (addT_i64 (mulL ys vs) (-1) (mulL xs us))
  have Is : Hid (∀ x ∈ trimL (addT (mulL ys vs) (-1) (mulL xs us)), -2147483648 ≤ x ∧ x ≤ 2147483647) := trimL_all (p := fun x => -2147483648 ≤ x ∧ x ≤ 2147483647) ⟨by omega, by omega⟩ Js.out
  have Ts := Lib.hid (trimL_idem (addT (mulL ys vs) (-1) (mulL xs us)))
  have Ns : Hid (1 ≤ (trimL (addT (mulL ys vs) (-1) (mulL xs us))).length) := by
    have a1 := trimL_length (addT (mulL ys vs) (-1) (mulL xs us))
    show 1 ≤ _
    omega
  have Me : Hid (∀ wx, Below w.heap.size w wx → Calls Try.prog 47 #[.slice A xs.length c, .slice B2 vs.length d2] wx (Fresh (mulL xs vs) wx)) :=
    fun wx hx => l04Mul_any A c xs B2 d2 vs wx (h.below hx) (h4.below hx) (by have := mulL_room v1 v4; omega)
  have Le : Hid ((mulL xs vs).length ≤ 130) := mulL_le130 v1 v4
  have Ie := Lib.hid (mulL_in xs vs)
  have Te := Lib.hid (mulL_trimmed xs vs)
  clear hs hs2 h h2 h3 h4 v1 v2 v3 v4
  generalize feedbackOf xs ys us vs = r at *
  have ADs : Hid (∀ wx Ap cp lp Aq cq lq, Own wx lp wx.heap.size Ap cp (mulL ys vs) → Own wx lq wx.heap.size Aq cq (mulL xs us) → Calls Try.prog 49 #[.slice Ap (mulL ys vs).length cp, .slice Aq (mulL xs us).length cq, .int .i64 (-1)] wx (Fresh (trimL (addT (mulL ys vs) (-1) (mulL xs us))) wx)) :=
    fun wx Ap cp lp Aq cq lq hp hq => l04Add_any Ap cp _ Aq cq _ (-1) wx (hp.argOf (by have := La.out; omega) Ia.out) (hq.argOf (by have := Lb.out; omega) Ib.out)
  generalize trimL (addT (mulL ys vs) (-1) (mulL xs us)) = ls at *
  generalize mulL ys vs = la at *
  generalize mulL xs us = lb at *
  generalize mulL xs vs = le at *
  generalize xs.length = n at *
  generalize ys.length = m at *
  generalize us.length = n2 at *
  generalize vs.length = m2 at *
  go_enter Try.func28, Try.ntmps28
  go_wp2_with fail
  rw [← HW0.out]
  refine HA.out.mono ?_
  rintro e w' ⟨rfl, rfl⟩
  go_wp2_with fail
  refine HB.out.mono ?_
  rintro e w' ⟨rfl, rfl⟩
  go_wp2_with fail
  have hbW := hb0
  have hzW := hz0
  have hgA : w.heap.size < w.heap.size + 2 := by omega
  have hgB : w.heap.size + 1 < w.heap.size + 2 := by omega
  have hgW : w.heap.size + 2 ≤ W0.heap.size := by omega
  have hbX : ∀ wx, Below (w.heap.size + 2) W0 wx → Below w.heap.size w wx := fun wx hx => hbW.trans (hx.mono (by omega))
  have HBX := Lib.hid hbX
  clear hbX
  go_region_held3 (fun w' => Below (w.heap.size + 2) W0 w' ∧ w'.cell? ⟨w.heap.size, 0, none⟩ = some (.slice A n c) ∧ w'.cell? ⟨w.heap.size, 1, none⟩ = some (.slice B m d) ∧ w'.cell? ⟨w.heap.size + 1, 0, none⟩ = some (.slice A2 n2 c2) ∧ w'.cell? ⟨w.heap.size + 1, 1, none⟩ = some (.slice B2 m2 d2))
    ((first | assumption | (refine Hid.out ?_; assumption) | (exact b2_keep P Q hgA hgB (Below.drew (Below.refl _ _))) | (refine b2_set P Q hgA hgB (b2_set P Q hgA hgB ?_ _ _ ?_) _ _ ?_; ((first | assumption | (refine Hid.out ?_; assumption))); ((try simp) <;> omega); ((try simp) <;> omega)) | (refine b2_set P Q hgA hgB ?_ _ _ ?_; ((first | assumption | (refine Hid.out ?_; assumption))); ((try simp) <;> omega))))
    ((first | (go_at_call_of 47 (Value.slice B m d); refine (Ma.out _ (HBX.out _ (And.left (by assumption : Below (w.heap.size + 2) W0 _ ∧ _)))).mono ?_; rintro e wa ⟨Aa, ca, rfl, Oa', hba⟩; have Oa : Own wa W0.heap.size wa.heap.size Aa ca la := Oa'; have hSa := Lib.hid (b2_call P Q hgA hgB hgW (by assumption) hba); have hWa : Below W0.heap.size W0 wa := nxt (w := W0.drew) ((Below.refl _ _).drew) hba (Nat.le_refl _); have hza : W0.heap.size ≤ wa.heap.size := hba.size; clear hba Oa') | (go_at_call_of 47 (Value.slice A n c); refine (Mb.out _ (HBX.out _ (And.left (by assumption : Below (w.heap.size + 2) W0 _ ∧ _)))).mono ?_; rintro e wb ⟨Ab, cb, rfl, Ob', hbb⟩; have Ob : Own wb wa.heap.size wb.heap.size Ab cb lb := Ob'; have hSb := Lib.hid (b2_call P Q hgA hgB hgW (by assumption) hbb); have hWb : Below W0.heap.size W0 wb := nxt hWa hbb hWa.size; have hzb : wa.heap.size ≤ wb.heap.size := hbb.size; replace Oa := Oa.below hbb (by (try simp) <;> omega); clear hbb Ob') | (go_at_call 49; refine (ADs.out _ _ _ _ _ _ _ (Oa.mono (Nat.le_refl _) (by (try simp) <;> omega)) (Ob.mono (Nat.le_refl _) (by (try simp) <;> omega))).mono ?_; rintro e ws ⟨As, cs, rfl, Os', hbs⟩; have Os : Own ws wb.heap.size ws.heap.size As cs ls := Os'; have hSs := Lib.hid (b2_call P Q hgA hgB hgW (by assumption) hbs); have hWs : Below W0.heap.size W0 ws := nxt hWb hbs hWb.size; have hzs : wb.heap.size ≤ ws.heap.size := hbs.size; replace Oa := Oa.below hbs (by (try simp) <;> omega); replace Ob := Ob.below hbs (by (try simp) <;> omega); clear hbs Os')))
  have hzl := hWs.size
  obtain ⟨bt, ot, hAt, _, hct⟩ := Os.sl (by have := Ns.out; omega)
  have et := hct 0 (by have := Ns.out; omega)
  subst hAt
  have hNt := Ns.out
  have et' : ws.cell? ⟨bt, ot, none⟩ = some (.int .i64 (ls.getD 0 0)) := et
  clear et hct
  replace r0 := ((bcell hWs).1 _ 0 (by omega)).trans r0
  replace r1 := ((bcell hWs).1 _ 1 (by omega)).trans r1
  replace f0 := ((bcell hWs).2 _ 0 (by omega)).trans f0
  replace f1 := ((bcell hWs).2 _ 1 (by omega)).trans f1
  have hbl := HBX.out _ (hWs.mono (by omega))
  have PP := Lib.hid (P.out.below hWs (by omega))
  have QQ := Lib.hid (Q.out.below hWs (by omega))
  by_cases htest : ls.getD 0 0 = 1
  case neg =>
    have HRn := Lib.hid (feed_no HR.out htest)
    have htb : (ls.getD 0 0 == 1) = false := by simpa using htest
    have htc : (ls.getD 0 0 != 1) = true := by simpa using htest
    clear htest HR
    generalize ls.getD 0 0 = y0 at *
    generalize hlt : ls.length = lt at *
    have HLT := Lib.hid hlt
    clear hlt
    go_wp2
    refine bodyPost_ret (v := .tuple #[.agg #[.slice none 0 0, .slice none 0 0], .int .i64 7]) (by simp [results, Try.results28, go_sem, r0, r1, f0, f1]) rfl ?_
    exact TIs.nil_ HRn.out ((hbl.setCell (by (first | (simp; done) | omega | (simp; omega))) _).setCell (by (first | (simp; done) | omega | (simp; omega))) _)
  have HRy := Lib.hid (feed_yes HR.out htest)
  rw [htest] at et'
  clear htest HR
  obtain ⟨e0, e1⟩ := PP.out
  obtain ⟨e2, e3⟩ := QQ.out
  generalize hlt : ls.length = lt at *
  have HLT := Lib.hid hlt
  clear hlt
  go_wp2_with fail
  clear e0 e1 e2 e3 et'
  refine (Me.out _ hbl).mono ?_
  rintro e we ⟨Ae, ce, rfl, Oe, hbe⟩
  have hze := hbe.size
  have hWe := nxt hWs hbe hWs.size
  have Os' := Os.below hbe (Nat.le_refl _)
  replace r0 := ((bcell hbe).1 _ 0 (by omega)).trans r0
  replace r1 := ((bcell hbe).1 _ 1 (by omega)).trans r1
  replace f0 := ((bcell hbe).2 _ 0 (by omega)).trans f0
  replace f1 := ((bcell hbe).2 _ 1 (by omega)).trans f1
  have hbl2 := nxt hbl hbe hbl.size
  clear hbe
  go_wp2_with fail
  rw [← HLT.out]
  refine (l05Make_any _ _ le _ _ ls _ (Oe.argOf (by have := Le.out; omega) Ie.out) ((Os'.mono (Nat.le_refl _) hze).argOf (by have := Ls.out.2; have := HLT.out; omega) Is.out) Te.out Ts.out).mono ?_
  rintro e wz ⟨ps, qs, code, Az, cz, Dz, dz, l1, k1, l2, k2, rfl, HR3, lenp, lenq, G, K, q1, q2, q3, q4, q5, hbz⟩
  have hbz2 := hbz
  have HR4 := Lib.hid (HR3.trans HRy.out)
  clear HR3
  have hzz2 := hbz.size
  replace r0 := ((bcell hbz).1 _ 0 (by omega)).trans r0
  replace r1 := ((bcell hbz).1 _ 1 (by omega)).trans r1
  replace f0 := ((bcell hbz).2 _ 0 (by omega)).trans f0
  replace f1 := ((bcell hbz).2 _ 1 (by omega)).trans f1
  have hbf := nxt hbl2 hbz hbl2.size
  clear hbz
  go_wp2
  refine bodyPost_ret (v := .tuple #[.agg #[.slice Az ps.length cz, .slice Dz qs.length dz], .int .i64 code]) (by simp [results, Try.results28, go_sem, r0, r1, f0, f1]) rfl ?_
  exact TIs.mk HR4.out rfl rfl lenp lenq ((G.setFar (by (first | (simp; done) | omega | (simp; omega))) _).setFar (by (first | (simp; done) | omega | (simp; omega))) _) ((K.setFar (by (first | (simp; done) | omega | (simp; omega))) _).setFar (by (first | (simp; done) | omega | (simp; omega))) _) (by omega) (by simpa [World.setCell] using q2) (by omega) (by simpa [World.setCell] using q4) q5 ((hbf.setCell (by (first | (simp; done) | omega | (simp; omega))) _).setCell (by (first | (simp; done) | omega | (simp; omega))) _)
set_option maxRecDepth 100000 in
set_option maxHeartbeats 8000000 in
theorem implFeedbackTransfer_any (A : Option Addr) (c : Nat) (xs : List Int) (B : Option Addr) (d : Nat) (ys : List Int) (A2 : Option Addr) (c2 : Nat) (us : List Int) (B2 : Option Addr) (d2 : Nat) (vs : List Int) (w : World) (h : Arg w A c xs) (h2 : Arg w B d ys) (h3 : Arg w A2 c2 us) (h4 : Arg w B2 d2 vs) :
    Calls Try.prog 29 #[.agg #[.slice A xs.length c, .slice B ys.length d], .agg #[.slice A2 us.length c2, .slice B2 vs.length d2]] w (TIs (feedbackOf xs ys us vs) w) := by
  obtain ⟨W0, hW0⟩ : ∃ W0, W0 = (((w.alloc (.cells #[.slice A xs.length c, .slice B ys.length d] 27)).alloc (.cells #[.slice A2 us.length c2, .slice B2 vs.length d2] 27)).alloc (.cells #[.slice none 0 0, .slice none 0 0] 27)) := ⟨_, rfl⟩
  have hb0 : Below w.heap.size w W0 := by rw [hW0]; (repeat (first | exact Below.refl _ _ | assumption | refine Below.setCell ?_ (by (try simp) <;> omega) _ | refine Below.alloc ?_ (by (try simp) <;> omega) _ | refine below_drewN_ ?_ | refine Below.drew ?_))
  have hz0 : w.heap.size + 3 ≤ W0.heap.size := by rw [hW0]; simp
  have hg0 : Hid (W0.heap.size = w.heap.size + 1 + 1 + 1) := by rw [hW0]; exact Lib.hid (by simp)
  have P : Hid (Bx W0 w.heap.size A xs.length c B ys.length d) := by rw [hW0]; exact Lib.hid (by constructor <;> go_simp)
  have Q : Hid (Bx W0 (w.heap.size + 1) A2 us.length c2 B2 vs.length d2) := by rw [hW0]; exact Lib.hid (by constructor <;> go_simp)
  have r0 : W0.cell? ⟨w.heap.size + 1 + 1, 0, none⟩ = some (.slice none 0 0) := by rw [hW0]; go_simp
  have r1 : W0.cell? ⟨w.heap.size + 1 + 1, 1, none⟩ = some (.slice none 0 0) := by rw [hW0]; go_simp
  have f0 : W0.frozen? ⟨w.heap.size + 1 + 1, 0, none⟩ = false := by rw [hW0]; go_simp
  have f1 : W0.frozen? ⟨w.heap.size + 1 + 1, 1, none⟩ = false := by rw [hW0]; go_simp
  have HW0 := Lib.hid hW0
  clear hW0
  have HA : Hid (∀ t, Calls Try.prog 33 #[.slice (some ⟨w.heap.size + 1 + 1 + 1, 0, none⟩) 2 2] (W0.alloc (.cells #[.slice A xs.length c, .slice B ys.length d, .slice A2 us.length c2, .slice B2 vs.length d2] t)) fun e w' => e = .returned (.bool (trB xs ys && trB us vs)) ∧ Below (W0.alloc (.cells #[.slice A xs.length c, .slice B ys.length d, .slice A2 us.length c2, .slice B2 vs.length d2] t)).heap.size (W0.alloc (.cells #[.slice A xs.length c, .slice B ys.length d, .slice A2 us.length c2, .slice B2 vs.length d2] t)) w') := by
    intro t
    obtain ⟨q0, q1, q2, q3⟩ := four_new W0 _ hg0.out (.slice A xs.length c) (.slice B ys.length d) (.slice A2 us.length c2) (.slice B2 vs.length d2) t
    have hbq := hb0.alloc hb0.size (.cells #[.slice A xs.length c, .slice B ys.length d, .slice A2 us.length c2, .slice B2 vs.length d2] t)
    exact areTransfers_any _ A c xs B d ys A2 c2 us B2 d2 vs _ (by have := hg0.out; simp; omega) (h.below hbq) (h2.below hbq) (h3.below hbq) (h4.below hbq) q0 q1 q2 q3
  cases hsb : (trB xs ys && trB us vs)
  · have HR : Hid ((([], []), 1) = feedbackOf xs ys us vs) := twoT_no hsb
    rw [hsb] at HA
    clear hsb h h2 h3 h4 P Q hg0
    generalize feedbackOf xs ys us vs = r at *
    generalize xs.length = n at *
    generalize ys.length = m at *
    generalize us.length = n2 at *
    generalize vs.length = m2 at *
    go_enter Try.func29, Try.ntmps29
    go_wp2_with fail
    rw [← HW0.out]
    refine (HA.out _).mono ?_
    rintro e W1 ⟨rfl, hba⟩
    have hzz : W0.heap.size ≤ (W0.alloc (.cells #[.slice A n c, .slice B m d, .slice A2 n2 c2, .slice B2 m2 d2] 27)).heap.size := by simp
    have hb1 : Below W0.heap.size W0 W1 := nxt ((Below.refl _ _).alloc (Nat.le_refl _) _) hba hzz
    have hbW := nxt hb0 hb1 hb0.size
    have hz1 := hb1.size
    replace r0 := ((bcell hb1).1 _ 0 (by omega)).trans r0
    replace r1 := ((bcell hb1).1 _ 1 (by omega)).trans r1
    replace f0 := ((bcell hb1).2 _ 0 (by omega)).trans f0
    replace f1 := ((bcell hb1).2 _ 1 (by omega)).trans f1
    clear hb1 hba
    go_wp2
    refine bodyPost_ret (v := .tuple #[.agg #[.slice none 0 0, .slice none 0 0], .int .i64 1]) (by simp [results, Try.results29, go_sem, r0, r1, f0, f1]) rfl ?_
    exact TIs.nil_ HR.out ((hbW.setCell (by (first | (simp; done) | omega | (simp; omega))) _).setCell (by (first | (simp; done) | omega | (simp; omega))) _)
  rw [hsb] at HA
  obtain ⟨hs, hs2⟩ : trB xs ys = true ∧ trB us vs = true := by simpa using hsb
  clear hsb
  obtain ⟨v1, v2, -⟩ := trB_inv hs
  obtain ⟨v3, v4, -⟩ := trB_inv hs2
  have HR : Hid (feedR (mulL xs vs) (trimL (addT (mulL ys vs) (-1) (mulL xs us))) = feedbackOf xs ys us vs) := twoT_yes hs hs2
  have Ma : Hid (∀ wx, Below w.heap.size w wx → Calls Try.prog 35 #[.slice B ys.length d, .slice B2 vs.length d2] wx (Fresh (mulL ys vs) wx)) :=
    fun wx hx => mulPoly_any B d ys B2 d2 vs wx (h2.below hx) (h4.below hx) (pol_smp v2) (pol_smp v4) (by have := mulL_room v2 v4; omega)
  have La : Hid ((mulL ys vs).length ≤ 130) := mulL_le130 v2 v4
  have Ia := Lib.hid (mulL_in ys vs)
  have Ta := Lib.hid (mulL_trimmed ys vs)
  have Mb : Hid (∀ wx, Below w.heap.size w wx → Calls Try.prog 35 #[.slice A xs.length c, .slice A2 us.length c2] wx (Fresh (mulL xs us) wx)) :=
    fun wx hx => mulPoly_any A c xs A2 c2 us wx (h.below hx) (h3.below hx) (pol_smp v1) (pol_smp v3) (by have := mulL_room v1 v3; omega)
  have Lb : Hid ((mulL xs us).length ≤ 130) := mulL_le130 v1 v3
  have Ib := Lib.hid (mulL_in xs us)
  have Tb := Lib.hid (mulL_trimmed xs us)
  have Ls : Hid ((addT (mulL ys vs) (-1) (mulL xs us)).length ≤ 130 ∧ (trimL (addT (mulL ys vs) (-1) (mulL xs us))).length ≤ 130) := by
    have a1 := addT_length (mulL ys vs) (-1) (mulL xs us)
    have a2 := trimL_le (addT (mulL ys vs) (-1) (mulL xs us))
    have a3 := La.out
    have a4 := Lb.out
    exact ⟨by omega, by omega⟩
  have Js := Lib.hid (addT_i64 (mulL ys vs) (-1) (mulL xs us))
  have Is : Hid (∀ x ∈ trimL (addT (mulL ys vs) (-1) (mulL xs us)), -2147483648 ≤ x ∧ x ≤ 2147483647) := trimL_all (p := fun x => -2147483648 ≤ x ∧ x ≤ 2147483647) ⟨by omega, by omega⟩ Js.out
  have Ts := Lib.hid (trimL_idem (addT (mulL ys vs) (-1) (mulL xs us)))
  have Ns : Hid (1 ≤ (trimL (addT (mulL ys vs) (-1) (mulL xs us))).length) := by
    have a1 := trimL_length (addT (mulL ys vs) (-1) (mulL xs us))
    show 1 ≤ _
    omega
  have Me : Hid (∀ wx, Below w.heap.size w wx → Calls Try.prog 35 #[.slice A xs.length c, .slice B2 vs.length d2] wx (Fresh (mulL xs vs) wx)) :=
    fun wx hx => mulPoly_any A c xs B2 d2 vs wx (h.below hx) (h4.below hx) (pol_smp v1) (pol_smp v4) (by have := mulL_room v1 v4; omega)
  have Le : Hid ((mulL xs vs).length ≤ 130) := mulL_le130 v1 v4
  have Ie := Lib.hid (mulL_in xs vs)
  have Te := Lib.hid (mulL_trimmed xs vs)
  clear hs hs2 h h2 h3 h4 v1 v2 v3 v4
  generalize feedbackOf xs ys us vs = r at *
  have ADs : Hid (∀ wx Ap cp lp Aq cq lq, Own wx lp wx.heap.size Ap cp (mulL ys vs) → Own wx lq wx.heap.size Aq cq (mulL xs us) → Calls Try.prog 51 #[.slice Ap (mulL ys vs).length cp, .int .i64 (-1), .slice Aq (mulL xs us).length cq] wx (Fresh (addT (mulL ys vs) (-1) (mulL xs us)) wx)) :=
    fun wx Ap cp lp Aq cq lq hp hq => addTimes_any Ap cp _ Aq cq _ (-1) wx (hp.argOf (by have := La.out; omega) Ia.out) (hq.argOf (by have := Lb.out; omega) Ib.out) (.all Ia.out) (.all Ib.out) (by omega) (by omega)
  have TRs : Hid (∀ wx Ap cp lp, Own wx lp wx.heap.size Ap cp (addT (mulL ys vs) (-1) (mulL xs us)) → Calls Try.prog 50 #[.slice Ap (addT (mulL ys vs) (-1) (mulL xs us)).length cp] wx (Fresh (trimL (addT (mulL ys vs) (-1) (mulL xs us))) wx)) :=
    fun wx Ap cp lp hp => trim_any Ap cp _ wx (hp.argOf (by have := Ls.out.1; omega) Js.out)
  generalize trimL (addT (mulL ys vs) (-1) (mulL xs us)) = ls at *
  generalize addT (mulL ys vs) (-1) (mulL xs us) = ss at *
  generalize mulL ys vs = la at *
  generalize mulL xs us = lb at *
  generalize mulL xs vs = le at *
  generalize xs.length = n at *
  generalize ys.length = m at *
  generalize us.length = n2 at *
  generalize vs.length = m2 at *
  go_enter Try.func29, Try.ntmps29
  go_wp2_with fail
  rw [← HW0.out]
  refine (HA.out _).mono ?_
  rintro e W1 ⟨rfl, hba⟩
  have hzz : W0.heap.size ≤ (W0.alloc (.cells #[.slice A n c, .slice B m d, .slice A2 n2 c2, .slice B2 m2 d2] 27)).heap.size := by simp
  have hb1 : Below W0.heap.size W0 W1 := nxt ((Below.refl _ _).alloc (Nat.le_refl _) _) hba hzz
  have hbW := nxt hb0 hb1 hb0.size
  have hz1 := hb1.size
  replace r0 := ((bcell hb1).1 _ 0 (by omega)).trans r0
  replace r1 := ((bcell hb1).1 _ 1 (by omega)).trans r1
  replace f0 := ((bcell hb1).2 _ 0 (by omega)).trans f0
  replace f1 := ((bcell hb1).2 _ 1 (by omega)).trans f1
  replace P := Lib.hid (P.out.below hb1 (by omega))
  replace Q := Lib.hid (Q.out.below hb1 (by omega))
  have hzW : w.heap.size + 3 ≤ W1.heap.size := by omega
  clear hb1 hba hg0
  go_wp2_with fail
  have hgA : w.heap.size < w.heap.size + 2 := by omega
  have hgB : w.heap.size + 1 < w.heap.size + 2 := by omega
  have hgW : w.heap.size + 2 ≤ W1.heap.size := by omega
  have hbX : ∀ wx, Below (w.heap.size + 2) W1 wx → Below w.heap.size w wx := fun wx hx => hbW.trans (hx.mono (by omega))
  have HBX := Lib.hid hbX
  clear hbX
  have R0 := Lib.hid r0
  have F0 := Lib.hid f0
  have R1 := Lib.hid r1
  have F1 := Lib.hid f1
  go_region_held3 (fun w' => Below (w.heap.size + 2) W1 w' ∧ w'.cell? ⟨w.heap.size, 0, none⟩ = some (.slice A n c) ∧ w'.cell? ⟨w.heap.size, 1, none⟩ = some (.slice B m d) ∧ w'.cell? ⟨w.heap.size + 1, 0, none⟩ = some (.slice A2 n2 c2) ∧ w'.cell? ⟨w.heap.size + 1, 1, none⟩ = some (.slice B2 m2 d2))
    ((first | assumption | (refine Hid.out ?_; assumption) | (exact b2_keep P Q hgA hgB (Below.drew (Below.refl _ _))) | (refine b2_set P Q hgA hgB (b2_set P Q hgA hgB ?_ _ _ ?_) _ _ ?_; ((first | assumption | (refine Hid.out ?_; assumption))); ((try simp) <;> omega); ((try simp) <;> omega)) | (refine b2_set P Q hgA hgB ?_ _ _ ?_; ((first | assumption | (refine Hid.out ?_; assumption))); ((try simp) <;> omega))))
    ((first | (go_at_call_of 35 (Value.slice B m d); refine (Ma.out _ (HBX.out _ (And.left (by assumption : Below (w.heap.size + 2) W1 _ ∧ _)))).mono ?_; rintro e wa ⟨Aa, ca, rfl, Oa', hba⟩; have Oa : Own wa W1.heap.size wa.heap.size Aa ca la := Oa'; have hSa := Lib.hid (b2_call P Q hgA hgB hgW (by assumption) hba); have hWa : Below W1.heap.size W1 wa := nxt (w := W1.drew) ((Below.refl _ _).drew) hba (Nat.le_refl _); have hza : W1.heap.size ≤ wa.heap.size := hba.size; clear hba Oa') | (go_at_call_of 35 (Value.slice A n c); refine (Mb.out _ (HBX.out _ (And.left (by assumption : Below (w.heap.size + 2) W1 _ ∧ _)))).mono ?_; rintro e wb ⟨Ab, cb, rfl, Ob', hbb⟩; have Ob : Own wb wa.heap.size wb.heap.size Ab cb lb := Ob'; have hSb := Lib.hid (b2_call P Q hgA hgB hgW (by assumption) hbb); have hWb : Below W1.heap.size W1 wb := nxt hWa hbb hWa.size; have hzb : wa.heap.size ≤ wb.heap.size := hbb.size; replace Oa := Oa.below hbb (by (try simp) <;> omega); clear hbb Ob') | (go_at_call 51; refine (ADs.out _ _ _ _ _ _ _ (Oa.mono (Nat.le_refl _) (by (try simp) <;> omega)) (Ob.mono (Nat.le_refl _) (by (try simp) <;> omega))).mono ?_; rintro e wss ⟨Ass, css, rfl, Oss', hbss⟩; have Oss : Own wss wb.heap.size wss.heap.size Ass css ss := Oss'; have hSss := Lib.hid (b2_call P Q hgA hgB hgW (by assumption) hbss); have hWss : Below W1.heap.size W1 wss := nxt hWb hbss hWb.size; have hzss : wb.heap.size ≤ wss.heap.size := hbss.size; replace Oa := Oa.below hbss (by (try simp) <;> omega); replace Ob := Ob.below hbss (by (try simp) <;> omega); clear hbss Oss') | (go_at_call 50; refine (TRs.out _ _ _ _ (Oss.mono (Nat.le_refl _) (by simp))).mono ?_; rintro e ws ⟨As, cs, rfl, Os', hbs⟩; have Os : Own ws wss.heap.size ws.heap.size As cs ls := Os'; have hSs := Lib.hid (b2_call P Q hgA hgB hgW (by assumption) hbs); have hWs : Below W1.heap.size W1 ws := nxt hWss hbs hWss.size; have hzs : wss.heap.size ≤ ws.heap.size := hbs.size; replace Oa := Oa.below hbs (by (try simp) <;> omega); replace Ob := Ob.below hbs (by (try simp) <;> omega); replace Oss := Oss.below hbs (by (try simp) <;> omega); clear hbs Os')))
  have hzl := hWs.size
  obtain ⟨bt, ot, hAt, _, hct⟩ := Os.sl (by have := Ns.out; omega)
  have et := hct 0 (by have := Ns.out; omega)
  subst hAt
  have hNt := Ns.out
  have et' : ws.cell? ⟨bt, ot, none⟩ = some (.int .i64 (ls.getD 0 0)) := et
  clear et hct
  replace r0 := ((bcell hWs).1 _ 0 (by omega)).trans r0
  replace r1 := ((bcell hWs).1 _ 1 (by omega)).trans r1
  replace f0 := ((bcell hWs).2 _ 0 (by omega)).trans f0
  replace f1 := ((bcell hWs).2 _ 1 (by omega)).trans f1
  have hbl := HBX.out _ (hWs.mono (by omega))
  have PP := Lib.hid (P.out.below hWs (by omega))
  have QQ := Lib.hid (Q.out.below hWs (by omega))
  by_cases htest : ls.getD 0 0 = 1
  case neg =>
    have HRn := Lib.hid (feed_no HR.out htest)
    have htb : (ls.getD 0 0 == 1) = false := by simpa using htest
    have htc : (ls.getD 0 0 != 1) = true := by simpa using htest
    clear htest HR
    generalize ls.getD 0 0 = y0 at *
    generalize hlt : ls.length = lt at *
    have HLT := Lib.hid hlt
    clear hlt
    go_wp2
    refine bodyPost_ret (v := .tuple #[.agg #[.slice none 0 0, .slice none 0 0], .int .i64 7]) (by simp [results, Try.results29, go_sem, r0, r1, f0, f1]) rfl ?_
    exact TIs.nil_ HRn.out ((hbl.setCell (by (first | (simp; done) | omega | (simp; omega))) _).setCell (by (first | (simp; done) | omega | (simp; omega))) _)
  have HRy := Lib.hid (feed_yes HR.out htest)
  rw [htest] at et'
  clear htest HR
  obtain ⟨e0, e1⟩ := PP.out
  obtain ⟨e2, e3⟩ := QQ.out
  generalize hlt : ls.length = lt at *
  have HLT := Lib.hid hlt
  clear hlt
  go_wp2_with fail
  clear e0 e1 e2 e3 et'
  refine (Me.out _ hbl).mono ?_
  rintro e we ⟨Ae, ce, rfl, Oe, hbe⟩
  have hze := hbe.size
  have hWe := nxt hWs hbe hWs.size
  have Os' := Os.below hbe (Nat.le_refl _)
  replace r0 := ((bcell hbe).1 _ 0 (by omega)).trans r0
  replace r1 := ((bcell hbe).1 _ 1 (by omega)).trans r1
  replace f0 := ((bcell hbe).2 _ 0 (by omega)).trans f0
  replace f1 := ((bcell hbe).2 _ 1 (by omega)).trans f1
  have hbl2 := nxt hbl hbe hbl.size
  clear hbe
  go_wp2_with fail
  rw [← HLT.out]
  refine (toldT_any _ _ le _ _ ls W1 _ _ _ _ _ (by have := Le.out; omega) (by have := Ls.out.2; have := HLT.out; omega) Oe Os' ⟨by omega, Nat.le_refl _, by omega, by omega, .inr (by omega)⟩ hWe).mono ?_
  rintro e wz ⟨ps, qs, code, Az, cz, Dz, dz, l1, k1, l2, k2, rfl, HR3, lenp, lenq, G, K, q1, q2, q3, q4, q5, hbz⟩
  have HR4 := Lib.hid (HR3.trans HRy.out)
  clear HR3
  have hzz2 := hbz.size
  have s0 := ((bcell hbz).1 (w.heap.size + 1 + 1) 0 (by omega)).trans R0.out
  have s1 := ((bcell hbz).1 (w.heap.size + 1 + 1) 1 (by omega)).trans R1.out
  have g0 := ((bcell hbz).2 (w.heap.size + 1 + 1) 0 (by omega)).trans F0.out
  have g1 := ((bcell hbz).2 (w.heap.size + 1 + 1) 1 (by omega)).trans F1.out
  clear r0 f0
  have r0 := s0
  have f0 := g0
  clear r1 f1
  have r1 := s1
  have f1 := g1
  have hbf := nxt hbW hbz hbW.size
  clear hbz
  go_wp2
  refine bodyPost_ret (v := .tuple #[.agg #[.slice Az ps.length cz, .slice Dz qs.length dz], .int .i64 code]) (by simp [results, Try.results29, go_sem, r0, r1, f0, f1]) rfl ?_
  exact TIs.mk HR4.out rfl rfl lenp lenq ((G.setFar (by (first | (simp; done) | omega | (simp; omega))) _).setFar (by (first | (simp; done) | omega | (simp; omega))) _) ((K.setFar (by (first | (simp; done) | omega | (simp; omega))) _).setFar (by (first | (simp; done) | omega | (simp; omega))) _) (by omega) (by simpa [World.setCell] using q2) (by omega) (by simpa [World.setCell] using q4) q5 ((hbf.setCell (by (first | (simp; done) | omega | (simp; omega))) _).setCell (by (first | (simp; done) | omega | (simp; omega))) _)

end Go.Proofs.Ytfgdkecmhgkpfaa
