/- Walks: CascadeTransfers. -/
import Derived.Test.YtfgdkecmhgkpfaaTg
import Derived.Test.YtfgdkecmhgkpfaaVo
import Derived.Test.YtfgdkecmhgkpfaaTf
namespace Go.Proofs.Ytfgdkecmhgkpfaa
open Go.RowKit
set_option linter.unusedVariables false
set_option linter.unusedSimpArgs false

theorem b2_keep {b : Nat} {W w' : World} {g : Nat} {A : Option Addr} {n c : Nat} {B : Option Addr} {m d g2 : Nat} {A2 : Option Addr} {n2 c2 : Nat} {B2 : Option Addr} {m2 d2 : Nat} (h : Hid (Bx W g A n c B m d)) (h' : Hid (Bx W g2 A2 n2 c2 B2 m2 d2)) (hg : g < b) (hg2 : g2 < b) (hb : Below b W w') :
    Below b W w' ∧ w'.cell? ⟨g, 0, none⟩ = some (.slice A n c) ∧ w'.cell? ⟨g, 1, none⟩ = some (.slice B m d) ∧ w'.cell? ⟨g2, 0, none⟩ = some (.slice A2 n2 c2) ∧ w'.cell? ⟨g2, 1, none⟩ = some (.slice B2 m2 d2) :=
  ⟨hb, (h.out.below hb hg).1, (h.out.below hb hg).2, (h'.out.below hb hg2).1, (h'.out.below hb hg2).2⟩
theorem b2_call {b : Nat} {W w0 w' : World} {g : Nat} {A : Option Addr} {n c : Nat} {B : Option Addr} {m d g2 : Nat} {A2 : Option Addr} {n2 c2 : Nat} {B2 : Option Addr} {m2 d2 : Nat} (h : Hid (Bx W g A n c B m d)) (h' : Hid (Bx W g2 A2 n2 c2 B2 m2 d2)) (hg : g < b) (hg2 : g2 < b) (hbs : b ≤ W.heap.size)
    (hs : Below b W w0 ∧ w0.cell? ⟨g, 0, none⟩ = some (.slice A n c) ∧ w0.cell? ⟨g, 1, none⟩ = some (.slice B m d) ∧ w0.cell? ⟨g2, 0, none⟩ = some (.slice A2 n2 c2) ∧ w0.cell? ⟨g2, 1, none⟩ = some (.slice B2 m2 d2)) (hb : Below w0.heap.size w0 w') :
    Below b W w' ∧ w'.cell? ⟨g, 0, none⟩ = some (.slice A n c) ∧ w'.cell? ⟨g, 1, none⟩ = some (.slice B m d) ∧ w'.cell? ⟨g2, 0, none⟩ = some (.slice A2 n2 c2) ∧ w'.cell? ⟨g2, 1, none⟩ = some (.slice B2 m2 d2) :=
  b2_keep h h' hg hg2 (nxt hs.1 hb (Nat.le_trans hbs hs.1.size))
theorem b2_set {b : Nat} {W w0 : World} {g : Nat} {A : Option Addr} {n c : Nat} {B : Option Addr} {m d g2 : Nat} {A2 : Option Addr} {n2 c2 : Nat} {B2 : Option Addr} {m2 d2 : Nat} (h : Hid (Bx W g A n c B m d)) (h' : Hid (Bx W g2 A2 n2 c2 B2 m2 d2)) (hg : g < b) (hg2 : g2 < b)
    (hs : Below b W w0 ∧ w0.cell? ⟨g, 0, none⟩ = some (.slice A n c) ∧ w0.cell? ⟨g, 1, none⟩ = some (.slice B m d) ∧ w0.cell? ⟨g2, 0, none⟩ = some (.slice A2 n2 c2) ∧ w0.cell? ⟨g2, 1, none⟩ = some (.slice B2 m2 d2)) (p : Addr) (v : Value) (hp : b ≤ p.block) :
    Below b W (w0.setCell p v) ∧ (w0.setCell p v).cell? ⟨g, 0, none⟩ = some (.slice A n c) ∧ (w0.setCell p v).cell? ⟨g, 1, none⟩ = some (.slice B m d) ∧ (w0.setCell p v).cell? ⟨g2, 0, none⟩ = some (.slice A2 n2 c2) ∧ (w0.setCell p v).cell? ⟨g2, 1, none⟩ = some (.slice B2 m2 d2) :=
  b2_keep h h' hg hg2 (hs.1.setCell hp v)
/-- A new block of four lists. -/
theorem four_new (W : World) (g : Nat) (hg : W.heap.size = g) (a b c d : Value) (t : TypeId) : (W.alloc (.cells #[a, b, c, d] t)).cell? ⟨g, 0, none⟩ = some a ∧ (W.alloc (.cells #[a, b, c, d] t)).cell? ⟨g, 1, none⟩ = some b ∧ (W.alloc (.cells #[a, b, c, d] t)).cell? ⟨g, 2, none⟩ = some c ∧ (W.alloc (.cells #[a, b, c, d] t)).cell? ⟨g, 3, none⟩ = some d := by
  subst hg
  refine ⟨?_, ?_, ?_, ?_⟩ <;> go_simp
theorem mulL_room {xs ys : List Int} (h : polB xs = true) (h' : polB ys = true) : xs.length + ys.length ≤ 130 := by
  have := pol_len h
  have := pol_len h'
  omega
theorem mulL_le130 {xs ys : List Int} (h : polB xs = true) (h' : polB ys = true) : (mulL xs ys).length ≤ 130 := by
  have := mulL_room h h'
  have := mulL_length xs ys
  omega
theorem mulL_trimmed (xs ys : List Int) : trimL (mulL xs ys) = mulL xs ys := trimL_idem _
/-- A result over two valid transfer functions. -/
def twoT (xs ys us vs : List Int) (r : (List Int × List Int) × Int) : (List Int × List Int) × Int := if trB xs ys && trB us vs then r else (([], []), 1)
theorem twoT_no {xs ys us vs : List Int} {r : (List Int × List Int) × Int} (h : (trB xs ys && trB us vs) = false) : (([], []), 1) = twoT xs ys us vs r := by simp [twoT, h]
theorem twoT_yes {xs ys us vs : List Int} {r : (List Int × List Int) × Int} (h : trB xs ys = true) (h' : trB us vs = true) : r = twoT xs ys us vs r := by simp [twoT, h, h']
def cascadeOf (xs ys us vs : List Int) : (List Int × List Int) × Int := twoT xs ys us vs (makeR (mulL xs us) (mulL ys vs))
set_option maxRecDepth 100000 in
set_option maxHeartbeats 8000000 in
theorem specCascadeTransfers_any (A : Option Addr) (c : Nat) (xs : List Int) (B : Option Addr) (d : Nat) (ys : List Int) (A2 : Option Addr) (c2 : Nat) (us : List Int) (B2 : Option Addr) (d2 : Nat) (vs : List Int) (w : World) (h : Arg w A c xs) (h2 : Arg w B d ys) (h3 : Arg w A2 c2 us) (h4 : Arg w B2 d2 vs) :
    Calls Try.prog 23 #[.agg #[.slice A xs.length c, .slice B ys.length d], .agg #[.slice A2 us.length c2, .slice B2 vs.length d2]] w (TIs (cascadeOf xs ys us vs) w) := by
  obtain ⟨W0, hW0⟩ : ∃ W0, W0 = (((w.alloc (.cells #[.slice A xs.length c, .slice B ys.length d] 27)).alloc (.cells #[.slice A2 us.length c2, .slice B2 vs.length d2] 27)).alloc (.cells #[.slice none 0 0, .slice none 0 0] 27)) := ⟨_, rfl⟩
  have hb0 : Below w.heap.size w W0 := by rw [hW0]; (repeat (first | exact Below.refl _ _ | assumption | refine Below.setCell ?_ (by (try simp) <;> omega) _ | refine Below.alloc ?_ (by (try simp) <;> omega) _ | refine below_drewN_ ?_ | refine Below.drew ?_))
  have hz0 : w.heap.size + 3 ≤ W0.heap.size := by rw [hW0]; simp
  have hg0 : Hid (W0.heap.size = w.heap.size + 1 + 1 + 1) := by rw [hW0]; exact Lib.hid (by simp)
  have P : Hid (Bx W0 w.heap.size A xs.length c B ys.length d) := by rw [hW0]; exact Lib.hid (by constructor <;> go_simp)
  have Q : Hid (Bx W0 (w.heap.size + 1) A2 us.length c2 B2 vs.length d2) := by rw [hW0]; exact Lib.hid (by constructor <;> go_simp)
  have r0 : W0.cell? ⟨w.heap.size + 1 + 1, 0, none⟩ = some (.slice none 0 0) := by rw [hW0]; go_simp
  have r1 : W0.cell? ⟨w.heap.size + 1 + 1, 1, none⟩ = some (.slice none 0 0) := by rw [hW0]; go_simp
  have f0 : W0.frozen? ⟨w.heap.size + 1 + 1, 0, none⟩ = false := by rw [hW0]; go_simp
  have f1 : W0.frozen? ⟨w.heap.size + 1 + 1, 1, none⟩ = false := by rw [hW0]; go_simp
  have HW0 := Lib.hid hW0
  clear hW0
  have HA := Lib.hid (l05Ok_any _ A c xs B d ys W0 P.out (h.below hb0) (h2.below hb0))
  have HB := Lib.hid (l05Ok_any _ A2 c2 us B2 d2 vs W0 Q.out (h3.below hb0) (h4.below hb0))
  cases hs : trB xs ys
  · have HR : Hid ((([], []), 1) = cascadeOf xs ys us vs) := twoT_no (by rw [hs]; rfl)
    rw [hs] at HA
    clear hs h h2 h3 h4 HB P Q hg0
    generalize cascadeOf xs ys us vs = r at *
    generalize xs.length = n at *
    generalize ys.length = m at *
    generalize us.length = n2 at *
    generalize vs.length = m2 at *
    go_enter Try.func23, Try.ntmps23
    go_wp2_with fail
    rw [← HW0.out]
    refine HA.out.mono ?_
    rintro e w' ⟨rfl, rfl⟩
    go_wp2
    refine bodyPost_ret (v := .tuple #[.agg #[.slice none 0 0, .slice none 0 0], .int .i64 1]) (by simp [results, Try.results23, go_sem, r0, r1, f0, f1]) rfl ?_
    exact TIs.nil_ HR.out ((hb0.setCell (by (first | (simp; done) | omega | (simp; omega))) _).setCell (by (first | (simp; done) | omega | (simp; omega))) _)
  rw [hs] at HA
  cases hs2 : trB us vs
  · have HR : Hid ((([], []), 1) = cascadeOf xs ys us vs) := twoT_no (by rw [hs, hs2]; rfl)
    rw [hs2] at HB
    clear hs hs2 h h2 h3 h4 P Q hg0
    generalize cascadeOf xs ys us vs = r at *
    generalize xs.length = n at *
    generalize ys.length = m at *
    generalize us.length = n2 at *
    generalize vs.length = m2 at *
    go_enter Try.func23, Try.ntmps23
    go_wp2_with fail
    rw [← HW0.out]
    refine HA.out.mono ?_
    rintro e w' ⟨rfl, rfl⟩
    go_wp2_with fail
    refine HB.out.mono ?_
    rintro e w' ⟨rfl, rfl⟩
    go_wp2
    refine bodyPost_ret (v := .tuple #[.agg #[.slice none 0 0, .slice none 0 0], .int .i64 1]) (by simp [results, Try.results23, go_sem, r0, r1, f0, f1]) rfl ?_
    exact TIs.nil_ HR.out ((hb0.setCell (by (first | (simp; done) | omega | (simp; omega))) _).setCell (by (first | (simp; done) | omega | (simp; omega))) _)
  rw [hs2] at HB
  obtain ⟨v1, v2, -⟩ := trB_inv hs
  obtain ⟨v3, v4, -⟩ := trB_inv hs2
  have HR : Hid (makeR (mulL xs us) (mulL ys vs) = cascadeOf xs ys us vs) := twoT_yes hs hs2
  have Mp : Hid (∀ wx, Below w.heap.size w wx → Calls Try.prog 47 #[.slice A xs.length c, .slice A2 us.length c2] wx (Fresh (mulL xs us) wx)) :=
    fun wx hx => l04Mul_any A c xs A2 c2 us wx (h.below hx) (h3.below hx) (by have := mulL_room v1 v3; omega)
  have Lp : Hid ((mulL xs us).length ≤ 130) := mulL_le130 v1 v3
  have Ip := Lib.hid (mulL_in xs us)
  have Tp := Lib.hid (mulL_trimmed xs us)
  have Mq : Hid (∀ wx, Below w.heap.size w wx → Calls Try.prog 47 #[.slice B ys.length d, .slice B2 vs.length d2] wx (Fresh (mulL ys vs) wx)) :=
    fun wx hx => l04Mul_any B d ys B2 d2 vs wx (h2.below hx) (h4.below hx) (by have := mulL_room v2 v4; omega)
  have Lq : Hid ((mulL ys vs).length ≤ 130) := mulL_le130 v2 v4
  have Iq := Lib.hid (mulL_in ys vs)
  have Tq := Lib.hid (mulL_trimmed ys vs)
  clear hs hs2 h h2 h3 h4 v1 v2 v3 v4
  generalize cascadeOf xs ys us vs = r at *
  generalize mulL xs us = lp at *
  generalize mulL ys vs = lq at *
  generalize xs.length = n at *
  generalize ys.length = m at *
  generalize us.length = n2 at *
  generalize vs.length = m2 at *
  go_enter Try.func23, Try.ntmps23
  go_wp2_with fail
  rw [← HW0.out]
  refine HA.out.mono ?_
  rintro e w' ⟨rfl, rfl⟩
  go_wp2_with fail
  refine HB.out.mono ?_
  rintro e w' ⟨rfl, rfl⟩
  go_wp2_with fail
  have hbW := hb0
  have hzW := hz0
  have hgA : w.heap.size < w.heap.size + 2 := by omega
  have hgB : w.heap.size + 1 < w.heap.size + 2 := by omega
  have hgW : w.heap.size + 2 ≤ W0.heap.size := by omega
  have hbX : ∀ wx, Below (w.heap.size + 2) W0 wx → Below w.heap.size w wx := fun wx hx => hbW.trans (hx.mono (by omega))
  have HBX := Lib.hid hbX
  clear hbX
  go_region_held3 (fun w' => Below (w.heap.size + 2) W0 w' ∧ w'.cell? ⟨w.heap.size, 0, none⟩ = some (.slice A n c) ∧ w'.cell? ⟨w.heap.size, 1, none⟩ = some (.slice B m d) ∧ w'.cell? ⟨w.heap.size + 1, 0, none⟩ = some (.slice A2 n2 c2) ∧ w'.cell? ⟨w.heap.size + 1, 1, none⟩ = some (.slice B2 m2 d2))
    ((first | assumption | (refine Hid.out ?_; assumption) | (exact b2_keep P Q hgA hgB (Below.drew (Below.refl _ _))) | (refine b2_set P Q hgA hgB (b2_set P Q hgA hgB ?_ _ _ ?_) _ _ ?_; ((first | assumption | (refine Hid.out ?_; assumption))); ((try simp) <;> omega); ((try simp) <;> omega)) | (refine b2_set P Q hgA hgB ?_ _ _ ?_; ((first | assumption | (refine Hid.out ?_; assumption))); ((try simp) <;> omega))))
    ((first | (go_at_call_of 47 (Value.slice A n c); refine (Mp.out _ (HBX.out _ (And.left (by assumption : Below (w.heap.size + 2) W0 _ ∧ _)))).mono ?_; rintro e wp ⟨Ap, cp, rfl, Op', hbp⟩; have Op : Own wp W0.heap.size wp.heap.size Ap cp lp := Op'; have hSp := Lib.hid (b2_call P Q hgA hgB hgW (by assumption) hbp); have hWp : Below W0.heap.size W0 wp := nxt (w := W0.drew) ((Below.refl _ _).drew) hbp (Nat.le_refl _); have hzp : W0.heap.size ≤ wp.heap.size := hbp.size; clear hbp Op') | (go_at_call_of 47 (Value.slice B m d); refine (Mq.out _ (HBX.out _ (And.left (by assumption : Below (w.heap.size + 2) W0 _ ∧ _)))).mono ?_; rintro e wq ⟨Aq, cq, rfl, Oq', hbq⟩; have Oq : Own wq wp.heap.size wq.heap.size Aq cq lq := Oq'; have hSq := Lib.hid (b2_call P Q hgA hgB hgW (by assumption) hbq); have hWq : Below W0.heap.size W0 wq := nxt hWp hbq hWp.size; have hzq : wp.heap.size ≤ wq.heap.size := hbq.size; replace Op := Op.below hbq (by (try simp) <;> omega); clear hbq Oq') | (go_at_call 46; refine (l05Make_any _ _ lp _ _ lq _ ((Op.mono (Nat.le_refl _) (by (try simp) <;> omega)).argOf (by have := Lp.out; omega) Ip.out) ((Oq.mono (Nat.le_refl _) (by (try simp) <;> omega)).argOf (by have := Lq.out; omega) Iq.out) Tp.out Tq.out).mono ?_; rintro e wz ⟨ps, qs, code, Az, cz, Dz, dz, l1, k1, l2, k2, rfl, HR3', lenp, lenq, G, K, q1, q2, q3, q4, q5, hbz⟩; have HR3 := Lib.hid HR3'; have hSz := Lib.hid (b2_call P Q hgA hgB hgW (by assumption) hbz); have hWz : Below W0.heap.size W0 wz := nxt hWq hbz hWq.size; have hzz : wq.heap.size ≤ wz.heap.size := hbz.size; replace Op := Op.below hbz (by (try simp) <;> omega); replace Oq := Oq.below hbz (by (try simp) <;> omega); replace r0 := ((bcell hWz).1 _ 0 (by omega)).trans r0; replace f0 := ((bcell hWz).2 _ 0 (by omega)).trans f0; replace r1 := ((bcell hWz).1 _ 1 (by omega)).trans r1; replace f1 := ((bcell hWz).2 _ 1 (by omega)).trans f1; clear hbz HR3')))
  have hbf := HBX.out _ (hWz.mono (by omega))
  have hzl := hWz.size
  have HR4 := Lib.hid (HR3.out.trans HR.out)
  go_wp2
  refine bodyPost_ret (v := .tuple #[.agg #[.slice Az ps.length cz, .slice Dz qs.length dz], .int .i64 code]) (by simp [results, Try.results23, go_sem, r0, r1, f0, f1]) rfl ?_
  exact TIs.mk HR4.out rfl rfl lenp lenq ((G.setFar (by (first | (simp; done) | omega | (simp; omega))) _).setFar (by (first | (simp; done) | omega | (simp; omega))) _) ((K.setFar (by (first | (simp; done) | omega | (simp; omega))) _).setFar (by (first | (simp; done) | omega | (simp; omega))) _) (by omega) (by simpa [World.setCell] using q2) (by omega) (by simpa [World.setCell] using q4) q5 ((hbf.setCell (by (first | (simp; done) | omega | (simp; omega))) _).setCell (by (first | (simp; done) | omega | (simp; omega))) _)
set_option maxRecDepth 100000 in
set_option maxHeartbeats 8000000 in
theorem implCascadeTransfers_any (A : Option Addr) (c : Nat) (xs : List Int) (B : Option Addr) (d : Nat) (ys : List Int) (A2 : Option Addr) (c2 : Nat) (us : List Int) (B2 : Option Addr) (d2 : Nat) (vs : List Int) (w : World) (h : Arg w A c xs) (h2 : Arg w B d ys) (h3 : Arg w A2 c2 us) (h4 : Arg w B2 d2 vs) :
    Calls Try.prog 24 #[.agg #[.slice A xs.length c, .slice B ys.length d], .agg #[.slice A2 us.length c2, .slice B2 vs.length d2]] w (TIs (cascadeOf xs ys us vs) w) := by
  obtain ⟨W0, hW0⟩ : ∃ W0, W0 = (((w.alloc (.cells #[.slice A xs.length c, .slice B ys.length d] 27)).alloc (.cells #[.slice A2 us.length c2, .slice B2 vs.length d2] 27)).alloc (.cells #[.slice none 0 0, .slice none 0 0] 27)) := ⟨_, rfl⟩
  have hb0 : Below w.heap.size w W0 := by rw [hW0]; (repeat (first | exact Below.refl _ _ | assumption | refine Below.setCell ?_ (by (try simp) <;> omega) _ | refine Below.alloc ?_ (by (try simp) <;> omega) _ | refine below_drewN_ ?_ | refine Below.drew ?_))
  have hz0 : w.heap.size + 3 ≤ W0.heap.size := by rw [hW0]; simp
  have hg0 : Hid (W0.heap.size = w.heap.size + 1 + 1 + 1) := by rw [hW0]; exact Lib.hid (by simp)
  have P : Hid (Bx W0 w.heap.size A xs.length c B ys.length d) := by rw [hW0]; exact Lib.hid (by constructor <;> go_simp)
  have Q : Hid (Bx W0 (w.heap.size + 1) A2 us.length c2 B2 vs.length d2) := by rw [hW0]; exact Lib.hid (by constructor <;> go_simp)
  have r0 : W0.cell? ⟨w.heap.size + 1 + 1, 0, none⟩ = some (.slice none 0 0) := by rw [hW0]; go_simp
  have r1 : W0.cell? ⟨w.heap.size + 1 + 1, 1, none⟩ = some (.slice none 0 0) := by rw [hW0]; go_simp
  have f0 : W0.frozen? ⟨w.heap.size + 1 + 1, 0, none⟩ = false := by rw [hW0]; go_simp
  have f1 : W0.frozen? ⟨w.heap.size + 1 + 1, 1, none⟩ = false := by rw [hW0]; go_simp
  have HW0 := Lib.hid hW0
  clear hW0
  have HA : Hid (∀ t, Calls Try.prog 33 #[.slice (some ⟨w.heap.size + 1 + 1 + 1, 0, none⟩) 2 2] (W0.alloc (.cells #[.slice A xs.length c, .slice B ys.length d, .slice A2 us.length c2, .slice B2 vs.length d2] t)) fun e w' => e = .returned (.bool (trB xs ys && trB us vs)) ∧ Below (W0.alloc (.cells #[.slice A xs.length c, .slice B ys.length d, .slice A2 us.length c2, .slice B2 vs.length d2] t)).heap.size (W0.alloc (.cells #[.slice A xs.length c, .slice B ys.length d, .slice A2 us.length c2, .slice B2 vs.length d2] t)) w') := by
    intro t
    obtain ⟨q0, q1, q2, q3⟩ := four_new W0 _ hg0.out (.slice A xs.length c) (.slice B ys.length d) (.slice A2 us.length c2) (.slice B2 vs.length d2) t
    have hbq := hb0.alloc hb0.size (.cells #[.slice A xs.length c, .slice B ys.length d, .slice A2 us.length c2, .slice B2 vs.length d2] t)
    exact areTransfers_any _ A c xs B d ys A2 c2 us B2 d2 vs _ (by have := hg0.out; simp; omega) (h.below hbq) (h2.below hbq) (h3.below hbq) (h4.below hbq) q0 q1 q2 q3
  cases hsb : (trB xs ys && trB us vs)
  · have HR : Hid ((([], []), 1) = cascadeOf xs ys us vs) := twoT_no hsb
    rw [hsb] at HA
    clear hsb h h2 h3 h4 P Q hg0
    generalize cascadeOf xs ys us vs = r at *
    generalize xs.length = n at *
    generalize ys.length = m at *
    generalize us.length = n2 at *
    generalize vs.length = m2 at *
    go_enter Try.func24, Try.ntmps24
    go_wp2_with fail
    rw [← HW0.out]
    refine (HA.out _).mono ?_
    rintro e W1 ⟨rfl, hba⟩
    have hzz : W0.heap.size ≤ (W0.alloc (.cells #[.slice A n c, .slice B m d, .slice A2 n2 c2, .slice B2 m2 d2] 27)).heap.size := by simp
    have hb1 : Below W0.heap.size W0 W1 := nxt ((Below.refl _ _).alloc (Nat.le_refl _) _) hba hzz
    have hbW := nxt hb0 hb1 hb0.size
    have hz1 := hb1.size
    replace r0 := ((bcell hb1).1 _ 0 (by omega)).trans r0
    replace r1 := ((bcell hb1).1 _ 1 (by omega)).trans r1
    replace f0 := ((bcell hb1).2 _ 0 (by omega)).trans f0
    replace f1 := ((bcell hb1).2 _ 1 (by omega)).trans f1
    clear hb1 hba
    go_wp2
    refine bodyPost_ret (v := .tuple #[.agg #[.slice none 0 0, .slice none 0 0], .int .i64 1]) (by simp [results, Try.results24, go_sem, r0, r1, f0, f1]) rfl ?_
    exact TIs.nil_ HR.out ((hbW.setCell (by (first | (simp; done) | omega | (simp; omega))) _).setCell (by (first | (simp; done) | omega | (simp; omega))) _)
  rw [hsb] at HA
  obtain ⟨hs, hs2⟩ : trB xs ys = true ∧ trB us vs = true := by simpa using hsb
  clear hsb
  obtain ⟨v1, v2, -⟩ := trB_inv hs
  obtain ⟨v3, v4, -⟩ := trB_inv hs2
  have HR : Hid (makeR (mulL xs us) (mulL ys vs) = cascadeOf xs ys us vs) := twoT_yes hs hs2
  have Mp : Hid (∀ wx, Below w.heap.size w wx → Calls Try.prog 35 #[.slice A xs.length c, .slice A2 us.length c2] wx (Fresh (mulL xs us) wx)) :=
    fun wx hx => mulPoly_any A c xs A2 c2 us wx (h.below hx) (h3.below hx) (pol_smp v1) (pol_smp v3) (by have := mulL_room v1 v3; omega)
  have Lp : Hid ((mulL xs us).length ≤ 130) := mulL_le130 v1 v3
  have Ip := Lib.hid (mulL_in xs us)
  have Tp := Lib.hid (mulL_trimmed xs us)
  have Mq : Hid (∀ wx, Below w.heap.size w wx → Calls Try.prog 35 #[.slice B ys.length d, .slice B2 vs.length d2] wx (Fresh (mulL ys vs) wx)) :=
    fun wx hx => mulPoly_any B d ys B2 d2 vs wx (h2.below hx) (h4.below hx) (pol_smp v2) (pol_smp v4) (by have := mulL_room v2 v4; omega)
  have Lq : Hid ((mulL ys vs).length ≤ 130) := mulL_le130 v2 v4
  have Iq := Lib.hid (mulL_in ys vs)
  have Tq := Lib.hid (mulL_trimmed ys vs)
  clear hs hs2 h h2 h3 h4 v1 v2 v3 v4
  generalize cascadeOf xs ys us vs = r at *
  generalize mulL xs us = lp at *
  generalize mulL ys vs = lq at *
  generalize xs.length = n at *
  generalize ys.length = m at *
  generalize us.length = n2 at *
  generalize vs.length = m2 at *
  go_enter Try.func24, Try.ntmps24
  go_wp2_with fail
  rw [← HW0.out]
  refine (HA.out _).mono ?_
  rintro e W1 ⟨rfl, hba⟩
  have hzz : W0.heap.size ≤ (W0.alloc (.cells #[.slice A n c, .slice B m d, .slice A2 n2 c2, .slice B2 m2 d2] 27)).heap.size := by simp
  have hb1 : Below W0.heap.size W0 W1 := nxt ((Below.refl _ _).alloc (Nat.le_refl _) _) hba hzz
  have hbW := nxt hb0 hb1 hb0.size
  have hz1 := hb1.size
  replace r0 := ((bcell hb1).1 _ 0 (by omega)).trans r0
  replace r1 := ((bcell hb1).1 _ 1 (by omega)).trans r1
  replace f0 := ((bcell hb1).2 _ 0 (by omega)).trans f0
  replace f1 := ((bcell hb1).2 _ 1 (by omega)).trans f1
  replace P := Lib.hid (P.out.below hb1 (by omega))
  replace Q := Lib.hid (Q.out.below hb1 (by omega))
  have hzW : w.heap.size + 3 ≤ W1.heap.size := by omega
  clear hb1 hba hg0
  go_wp2_with fail
  have hgA : w.heap.size < w.heap.size + 2 := by omega
  have hgB : w.heap.size + 1 < w.heap.size + 2 := by omega
  have hgW : w.heap.size + 2 ≤ W1.heap.size := by omega
  have hbX : ∀ wx, Below (w.heap.size + 2) W1 wx → Below w.heap.size w wx := fun wx hx => hbW.trans (hx.mono (by omega))
  have HBX := Lib.hid hbX
  clear hbX
  go_region_held3 (fun w' => Below (w.heap.size + 2) W1 w' ∧ w'.cell? ⟨w.heap.size, 0, none⟩ = some (.slice A n c) ∧ w'.cell? ⟨w.heap.size, 1, none⟩ = some (.slice B m d) ∧ w'.cell? ⟨w.heap.size + 1, 0, none⟩ = some (.slice A2 n2 c2) ∧ w'.cell? ⟨w.heap.size + 1, 1, none⟩ = some (.slice B2 m2 d2))
    ((first | assumption | (refine Hid.out ?_; assumption) | (exact b2_keep P Q hgA hgB (Below.drew (Below.refl _ _))) | (refine b2_set P Q hgA hgB (b2_set P Q hgA hgB ?_ _ _ ?_) _ _ ?_; ((first | assumption | (refine Hid.out ?_; assumption))); ((try simp) <;> omega); ((try simp) <;> omega)) | (refine b2_set P Q hgA hgB ?_ _ _ ?_; ((first | assumption | (refine Hid.out ?_; assumption))); ((try simp) <;> omega))))
    ((first | (go_at_call_of 35 (Value.slice A n c); refine (Mp.out _ (HBX.out _ (And.left (by assumption : Below (w.heap.size + 2) W1 _ ∧ _)))).mono ?_; rintro e wp ⟨Ap, cp, rfl, Op', hbp⟩; have Op : Own wp W1.heap.size wp.heap.size Ap cp lp := Op'; have hSp := Lib.hid (b2_call P Q hgA hgB hgW (by assumption) hbp); have hWp : Below W1.heap.size W1 wp := nxt (w := W1.drew) ((Below.refl _ _).drew) hbp (Nat.le_refl _); have hzp : W1.heap.size ≤ wp.heap.size := hbp.size; clear hbp Op') | (go_at_call_of 35 (Value.slice B m d); refine (Mq.out _ (HBX.out _ (And.left (by assumption : Below (w.heap.size + 2) W1 _ ∧ _)))).mono ?_; rintro e wq ⟨Aq, cq, rfl, Oq', hbq⟩; have Oq : Own wq wp.heap.size wq.heap.size Aq cq lq := Oq'; have hSq := Lib.hid (b2_call P Q hgA hgB hgW (by assumption) hbq); have hWq : Below W1.heap.size W1 wq := nxt hWp hbq hWp.size; have hzq : wp.heap.size ≤ wq.heap.size := hbq.size; replace Op := Op.below hbq (by (try simp) <;> omega); clear hbq Oq') | (go_at_call 48; refine (toldT_any _ _ lp _ _ lq W1 _ _ _ _ _ (by have := Lp.out; omega) (by have := Lq.out; omega) Op Oq ⟨by omega, by omega, by omega, by omega, by omega⟩ hWq).mono ?_; rintro e wz ⟨ps, qs, code, Az, cz, Dz, dz, l1, k1, l2, k2, rfl, HR3', lenp, lenq, G, K, q1, q2, q3, q4, q5, hbz⟩; have HR3 := Lib.hid HR3'; have hSz := Lib.hid (b2_keep P Q hgA hgB (hbz.mono hgW)); have hWz : Below W1.heap.size W1 wz := hbz; have hzz : W1.heap.size ≤ wz.heap.size := hbz.size; replace r0 := ((bcell hWz).1 _ 0 (by omega)).trans r0; replace f0 := ((bcell hWz).2 _ 0 (by omega)).trans f0; replace r1 := ((bcell hWz).1 _ 1 (by omega)).trans r1; replace f1 := ((bcell hWz).2 _ 1 (by omega)).trans f1; clear hbz HR3')))
  have hbf := HBX.out _ (hWz.mono (by omega))
  have hzl := hWz.size
  have HR4 := Lib.hid (HR3.out.trans HR.out)
  go_wp2
  refine bodyPost_ret (v := .tuple #[.agg #[.slice Az ps.length cz, .slice Dz qs.length dz], .int .i64 code]) (by simp [results, Try.results24, go_sem, r0, r1, f0, f1]) rfl ?_
  exact TIs.mk HR4.out rfl rfl lenp lenq ((G.setFar (by (first | (simp; done) | omega | (simp; omega))) _).setFar (by (first | (simp; done) | omega | (simp; omega))) _) ((K.setFar (by (first | (simp; done) | omega | (simp; omega))) _).setFar (by (first | (simp; done) | omega | (simp; omega))) _) (by omega) (by simpa [World.setCell] using q2) (by omega) (by simpa [World.setCell] using q4) q5 ((hbf.setCell (by (first | (simp; done) | omega | (simp; omega))) _).setCell (by (first | (simp; done) | omega | (simp; omega))) _)

end Go.Proofs.Ytfgdkecmhgkpfaa
