/- Walks: DivPoly. -/
import Derived.Test.YtppfcmhbbjgkfaaVq
namespace Go.Proofs.Ytppfcmhbbjgkfaa
open Go.RowKit
set_option linter.unusedVariables false
set_option linter.unusedSimpArgs false

theorem Own.setFar {w : World} {lo hi : Nat} {A : Option Addr} {c : Nat} {xs : List Int} (h : Own w lo hi A c xs) {p : Addr} (hp : p.block < lo ∨ hi ≤ p.block) (u : Value) : Own (w.setCell p u) lo hi A c xs :=
  h.only ((Only.refl p.block (p.block + 1) w).setCell (Nat.le_refl _) (Nat.lt_succ_self _) u) (by omega)
/-- Two fresh lists and a code. -/
def IIntsIs (r : List Int × List Int × Int) (w : World) (e : Ending) (w' : World) : Prop :=
  ∃ ys zs code A c B d l1 h1 l2 h2, e = .returned (.tuple #[.slice A ys.length c, .slice B zs.length d, .int .i64 code]) ∧ (ys, zs, code) = r ∧ ys.length ≤ 1048576 ∧ zs.length ≤ 1048576 ∧
    Own w' l1 h1 A c ys ∧ Own w' l2 h2 B d zs ∧ w.heap.size ≤ l1 ∧ h1 ≤ w'.heap.size ∧ w.heap.size ≤ l2 ∧ h2 ≤ w'.heap.size ∧ (h1 ≤ l2 ∨ h2 ≤ l1) ∧ Below w.heap.size w w'
theorem IIntsIs.nil_ {r : List Int × List Int × Int} {code : Int} {w w' : World} (h : ([], [], code) = r) (hb : Below w.heap.size w w') :
    IIntsIs r w (.returned (.tuple #[.slice none 0 0, .slice none 0 0, .int .i64 code])) w' :=
  ⟨[], [], _, none, 0, none, 0, w.heap.size, w.heap.size, w.heap.size, w.heap.size, rfl, h, by simp, by simp, Own.nil _ _ _, Own.nil _ _ _, Nat.le_refl _, hb.size, Nat.le_refl _, hb.size, .inl (Nat.le_refl _), hb⟩
theorem IIntsIs.mk {r : List Int × List Int × Int} {ys zs : List Int} {code : Int} {w w' : World} {A B : Option Addr} {n m c d l1 h1 l2 h2 : Nat} (h : (ys, zs, code) = r) (hn : n = ys.length) (hm : m = zs.length) (hl : ys.length ≤ 1048576) (hl' : zs.length ≤ 1048576)
    (hO : Own w' l1 h1 A c ys) (hO' : Own w' l2 h2 B d zs) (e1 : w.heap.size ≤ l1) (e2 : h1 ≤ w'.heap.size) (e3 : w.heap.size ≤ l2) (e4 : h2 ≤ w'.heap.size) (e5 : h1 ≤ l2 ∨ h2 ≤ l1) (hb : Below w.heap.size w w') :
    IIntsIs r w (.returned (.tuple #[.slice A n c, .slice B m d, .int .i64 code])) w' := by
  subst hn hm
  exact ⟨_, _, _, _, _, _, _, _, _, _, _, rfl, h, hl, hl', hO, hO', e1, e2, e3, e4, e5, hb⟩

/-- The quotient and the rest. -/
def divOf (xs ys : List Int) : List Int × List Int × Int :=
  if polB xs && polB ys then
    if oddB (ys.getD (ys.length - 1) 0) then
      (trimL (qRev (fun k => ys.getD k 0) (ys.length - 1) (invN (ys.getD (ys.length - 1) 0) 5) (fun k => xs.getD k 0) (xs.length - (ys.length - 1)) (xs.length - (ys.length - 1))),
       trimL (tab xs.length (dvR (fun k => ys.getD k 0) (ys.length - 1) (invN (ys.getD (ys.length - 1) 0) 5) (fun k => xs.getD k 0) (xs.length - (ys.length - 1)) (xs.length - (ys.length - 1)))), 0)
    else ([], [], 6)
  else ([], [], 1)
theorem divOf_no {xs ys : List Int} (h : (polB xs && polB ys) = false) : ([], [], 1) = divOf xs ys := by simp [divOf, h]
theorem divOf_even {xs ys : List Int} (h : (polB xs && polB ys) = true) (h' : oddB (ys.getD (ys.length - 1) 0) = false) : ([], [], 6) = divOf xs ys := by unfold divOf; rw [if_pos h, h']; rfl
theorem divOf_yes {xs ys : List Int} (h : (polB xs && polB ys) = true) (h' : oddB (ys.getD (ys.length - 1) 0) = true) :
    (trimL (qRev (fun k => ys.getD k 0) (ys.length - 1) (invN (ys.getD (ys.length - 1) 0) 5) (fun k => xs.getD k 0) (xs.length - (ys.length - 1)) (xs.length - (ys.length - 1))),
       trimL (tab xs.length (dvR (fun k => ys.getD k 0) (ys.length - 1) (invN (ys.getD (ys.length - 1) 0) 5) (fun k => xs.getD k 0) (xs.length - (ys.length - 1)) (xs.length - (ys.length - 1)))), 0) = divOf xs ys := by
  unfold divOf; rw [if_pos h, if_pos h']
theorem tab_self (xs : List Int) : xs = tab xs.length (fun k => xs.getD k 0) := tab_of xs

set_option maxHeartbeats 2000000 in
theorem implDivPoly_any (A : Option Addr) (c : Nat) (xs : List Int) (A2 : Option Addr) (c2 : Nat) (ys : List Int) (w : World) (h : Arg w A c xs) (h2 : Arg w A2 c2 ys) :
    Calls Try.prog 38 #[.slice A xs.length c, .slice A2 ys.length c2] w (IIntsIs (divOf xs ys) w) := by
  have HA := Lib.hid (arePolys_any A c xs A2 c2 ys w h h2)
  cases hno : (polB xs && polB ys)
  · have HR := Lib.hid (divOf_no hno)
    rw [hno] at HA
    clear h h2 hno
    generalize divOf xs ys = r at *
    generalize xs.length = m at *
    generalize ys.length = m2 at *
    go_enter Try.func38, Try.ntmps38
    go_wp2_with fail
    refine HA.out.mono ?_
    rintro e w' ⟨rfl, rfl⟩
    go_wp2
    go_ret3
    exact IIntsIs.nil_ HR.out (by (repeat (first | exact Below.refl _ _ | assumption | refine Below.setCell ?_ (by (try simp) <;> omega) _ | refine Below.alloc ?_ (by (try simp) <;> omega) _ | refine below_drewN_ ?_ | refine Below.drew ?_)))
  rw [hno] at HA
  obtain ⟨hs, hs2⟩ : polB xs = true ∧ polB ys = true := by simpa using hno
  obtain ⟨lx1, lx2⟩ := pol_len hs
  obtain ⟨ly1, ly2⟩ := pol_len hs2
  have S1 := Lib.hid (pol_smp hs)
  have S2 := Lib.hid (pol_smp hs2)
  unfold Smp at S1 S2
  clear hs hs2
  have EV : Hid (oddB (ys.getD (ys.length - 1) 0) = false → ([], [], 6) = divOf xs ys) := divOf_even hno
  have OD : Hid (oddB (ys.getD (ys.length - 1) 0) = true → _ = divOf xs ys) := divOf_yes hno
  clear hno
  have W0 : ∃ W0, W0 = w.alloc (.cells #[.slice A xs.length c, .slice A2 ys.length c2] 22) := ⟨_, rfl⟩
  obtain ⟨W0, hW0⟩ := W0
  have hb0 : Below w.heap.size w W0 := by rw [hW0]; (repeat (first | exact Below.refl _ _ | assumption | refine Below.setCell ?_ (by (try simp) <;> omega) _ | refine Below.alloc ?_ (by (try simp) <;> omega) _ | refine below_drewN_ ?_ | refine Below.drew ?_))
  have hsz0 := hb0.size
  have ARG := Lib.hid (h.below hb0)
  have ARG2 := Lib.hid (h2.below hb0)
  clear h h2
  rw [← hW0] at HA
  have HW0 := Lib.hid hW0
  clear hW0
  have CL := Lib.hid (clone_any A c xs W0 ARG.out)
  obtain ⟨f, hf⟩ : ∃ f : Nat → Int, f = fun k => xs.getD k 0 := ⟨_, rfl⟩
  obtain ⟨f2, hf2⟩ : ∃ f : Nat → Int, f = fun k => ys.getD k 0 := ⟨_, rfl⟩
  have C2 : Hid (∀ k, k < ys.length → ∃ b o, A2 = some ⟨b, o, none⟩ ∧ b < W0.heap.size ∧ W0.cell? ⟨b, o + k, none⟩ = some (.int .i64 (f2 k))) := by
    intro k hk
    obtain ⟨b, o, e1, e2, e3⟩ := ARG2.out.sl (by omega)
    exact ⟨b, o, e1, e2, by rw [hf2]; exact e3 k hk⟩
  have XT : Hid (xs = tab xs.length f) := by rw [hf]; exact tab_of xs
  clear ARG ARG2
  simp only [← hf, ← congrFun hf _, ← hf2, ← congrFun hf2 _] at S1 S2 EV OD
  clear hf hf2
  generalize divOf xs ys = r at *
  generalize xs.length = n at *
  generalize hn2 : ys.length - 1 = n2 at *
  have hn2' : ys.length = n2 + 1 := by omega
  rw [hn2'] at C2 HW0 ly2 ⊢
  clear hn2 hn2' ly1
  obtain ⟨b, o, rfl, hb, e0⟩ := C2.out n2 (by omega)
  obtain ⟨p1, p2⟩ := S2.out n2
  generalize hy0 : f2 n2 = y0 at *
  have HY0 := Lib.hid hy0
  clear hy0
  cases g2 : oddB y0
  · have HR := Lib.hid (EV.out g2)
    have G2 := Lib.hid g2
    clear g2 EV OD CL XT
    go_enter Try.func38, Try.ntmps38
    go_wp2_with fail
    rw [← HW0.out]
    refine HA.out.mono ?_
    rintro e w' ⟨rfl, rfl⟩
    go_wp2_with (go_at_call 71; refine (isOdd_any _ _).mono ?_; rw [G2.out]; rintro e w' ⟨rfl, rfl⟩)
    go_ret3
    exact IIntsIs.nil_ HR.out hb0
  have HR := Lib.hid (OD.out g2)
  have G2 := Lib.hid g2
  clear g2 EV OD
  have HI := Lib.hid (inverse_any y0 W0 p1 p2)
  obtain ⟨i1, i2⟩ := invN_lo p1 p2 5
  generalize invN y0 5 = inv at *
  have R0 : Hid (f = dvR f2 n2 inv f (n - n2) 0) := rfl
  have RS : Hid (∀ j, dRow (wrap32 (dvR f2 n2 inv f (n - n2) j (n - n2 - 1 - j + n2) * inv)) f2 (n - n2 - 1 - j) (dvR f2 n2 inv f (n - n2) j) (n2 + 1) = dvR f2 n2 inv f (n - n2) (j + 1)) := fun j => rfl
  have RI := Lib.hid (dvR_in (b := f2) (n := n2) (inv := inv) (K := n - n2) S1.out)
  have Q0 := Lib.hid (qPart_zero f2 n2 inv f (n - n2) n)
  have QS : Hid (∀ j v, j < n - n2 → v = wrap32 (dvR f2 n2 inv f (n - n2) j (n - n2 - 1 - j + n2) * inv) → (tab n (qPart f2 n2 inv f (n - n2) j)).set (n - n2 - 1 - j) v = tab n (qPart f2 n2 inv f (n - n2) (j + 1))) := fun j v a b => qPart_set a b
  have QE : Hid (trimL (tab n (qPart f2 n2 inv f (n - n2) (n - n2))) = trimL (qRev f2 n2 inv f (n - n2) (n - n2))) := q_same (by omega)
  have QI : Hid (∀ j, ∀ x ∈ tab n (qPart f2 n2 inv f (n - n2) j), -2147483648 ≤ x ∧ x ≤ 2147483647) := fun j => tab_all fun k _ => by
    unfold qPart
    split
    · exact ⟨wrap32_lo _, wrap32_hi _⟩
    · exact ⟨by omega, by omega⟩
  generalize trimL (qRev f2 n2 inv f (n - n2) (n - n2)) = qr at *
  generalize qPart f2 n2 inv f (n - n2) = QP at *
  generalize dvR f2 n2 inv f (n - n2) = R at *
  go_enter Try.func38, Try.ntmps38
  go_wp2_with fail
  rw [← HW0.out]
  refine HA.out.mono ?_
  rintro e w' ⟨rfl, rfl⟩
  go_wp2_with (go_at_call 71; refine (isOdd_any _ _).mono ?_; rw [G2.out]; rintro e w' ⟨rfl, rfl⟩)
  refine HI.out.mono ?_
  rintro e w' ⟨rfl, rfl⟩
  clear e0 HI HA
  go_wp2_with fail
  refine CL.out.mono ?_
  rintro e w1 ⟨A1, c1, rfl, hO1, hb1⟩
  have LX := Lib.hid (show xs.length = n by rw [XT.out, tab_length])
  rw [LX.out]
  have O1 : Hid (Own w1 W0.heap.size w1.heap.size A1 c1 (tab n (R 0))) := by
    have := hO1
    rw [XT.out, R0.out] at this
    exact this
  have hz1 := hb1.size
  clear hO1 CL
  go_wp2_with fail
  refine (size_any _ _ _ _).mono ?_
  rintro e w' ⟨rfl, rfl⟩
  go_wp2_with fail
  refine (zerosN_any _ n rfl _ (by omega)).mono ?_
  rintro e w2 ⟨A3, c3, rfl, hO3, hb3⟩
  have hz3 := hb3.size
  have O3 := Lib.hid hO3
  rw [Q0.out] at O3
  have O1' := Lib.hid (O1.out.below hb3 (Nat.le_refl _))
  have hb2 := nxt hb1 hb3 hz1
  clear hO3 hb1 hb3 O1
  generalize w1.heap.size = h1 at *
  obtain ⟨h2, hh2⟩ : ∃ h2, h2 = w2.heap.size := ⟨_, rfl⟩
  rw [← hh2] at O3 hz3
  have hz2 : h2 ≤ w2.heap.size := by omega
  clear hh2
  go_wp2
  go_loopw [11, 12, 13, 14, 62] (fun i _ _ _ _ wr => ∃ (j : Nat) (ii : Int), i = .int .i64 ii ∧ ii = (n : Int) - 1 - j ∧ j ≤ n - n2 ∧ Own wr W0.heap.size h1 A1 c1 (tab n (R j)) ∧ Own wr h1 h2 A3 c3 (tab n (QP j)) ∧ Below W0.heap.size W0 wr ∧ h2 ≤ wr.heap.size) (fun i _ _ _ _ _ => (intOf i + 1).toNat)
  case atStart => exact ⟨0, _, rfl, by omega, by omega, O1'.out, O3.out, hb2, hz2⟩
  case round =>
    obtain ⟨j, ii, rfl, hii, hj, hown, hownq, hbr, hsz⟩ := hrel
    by_cases hlt : j < n - n2
    · obtain ⟨m, rfl⟩ : ∃ m : Nat, ii = m := ⟨ii.toNat, by omega⟩
      have hm : m = n - 1 - j := by omega
      have hk : m - n2 = n - n2 - 1 - j := by omega
      have hk2 : n - n2 - 1 - j + n2 = m := by omega
      have hmn : n2 ≤ m := by omega
      have hmn' : m < n := by omega
      obtain ⟨g, rfl, hlo, hhi⟩ := hown.form (by rw [tab_length]; omega)
      obtain ⟨g3, rfl, hlo3, hhi3⟩ := hownq.form (by rw [tab_length]; omega)
      have c0 := hown.cell m (by rw [tab_length]; omega)
      rw [tab_getD hmn'] at c0
      have c3' := hownq.cell (m - n2) (by rw [tab_length]; omega)
      have f3' := hownq.notFrozen (m - n2)
      have RS' := Lib.hid (RS.out j)
      have QS' := Lib.hid (QS.out j _ hlt rfl)
      rw [hk2, ← hk] at RS' QS'
      have RI' := Lib.hid (RI.out j)
      obtain ⟨x1, x2⟩ := RI'.out m
      obtain ⟨r1, r2⟩ := smp_mul x1 x2 i1 i2
      have HII := Lib.hid hii
      have HQ := Lib.hid (hownq.set (m - n2) (wrap32 (R j m * inv)))
      rw [QS'.out] at HQ
      have HO := Lib.hid (hown.setFar (p := ⟨g3, m - n2, none⟩) (by simp; omega) (.int .i64 (wrap32 (R j m * inv))))
      obtain ⟨q, hq⟩ : ∃ q, q = wrap32 (R j m * inv) := ⟨_, rfl⟩
      have qq : -2147483648 ≤ q ∧ q ≤ 2147483647 := by rw [hq]; exact ⟨wrap32_lo _, wrap32_hi _⟩
      obtain ⟨q1, q2⟩ := qq
      rw [← hq] at RS' HQ HO
      have HQQ := Lib.hid hq
      clear hq hii hm hk hk2 hown hownq QS'
      have HOWN' : Hid (Own (wr.setCell ⟨g3, m - n2, none⟩ (.int .i64 q)) W0.heap.size h1 (some ⟨g, 0, none⟩) c1 (tab n (dRow q f2 (m - n2) (R j) 0))) := HO.out
      have DI := Lib.hid (dRow_in (q := q) (b := f2) (k := m - n2) RI'.out)
      have hbr' : Below W0.heap.size W0 (wr.setCell ⟨g3, m - n2, none⟩ (.int .i64 q)) := hbr.setCell (by simp; omega) _
      have hsz' : h2 ≤ (wr.setCell ⟨g3, m - n2, none⟩ (.int .i64 q)).heap.size := by simpa [World.setCell] using hsz
      generalize R j m = x at *
      generalize R j = F at *
      generalize (tab n (QP j)).getD (m - n2) 0 = y3 at *
      clear HO RI' hbr hsz
      have v1 : ((m : Int) - (n2 : Int)).toNat = m - n2 := by omega
      go_wp2_with (go_at_call 75; refine (implWrap_any _ _).mono ?_; rintro e w' ⟨rfl, rfl⟩)
      rw [← HQQ.out]
      generalize wr.setCell ⟨g3, m - n2, none⟩ (.int .i64 q) = W2 at *
      clear c0 c3' f3' v1 r1 r2 x1 x2 HQQ
      go_loopw [13, 14, 62] (fun _ _ i wq => ∃ (t : Nat), t ≤ n2 + 1 ∧ i = .int .i64 t ∧ Own wq W0.heap.size h1 (some ⟨g, 0, none⟩) c1 (tab n (dRow q f2 (m - n2) F t)) ∧ Own wq h1 h2 (some ⟨g3, 0, none⟩) c3 (tab n (QP (j + 1))) ∧ Below W0.heap.size W0 wq ∧ h2 ≤ wq.heap.size) (fun _ _ i _ => n2 + 1 - (intOf i).toNat)
      case atStart => exact ⟨0, by omega, rfl, HOWN'.out, HQ.out, hbr', hsz'⟩
      case round =>
        clear HOWN' HQ hbr' hsz'
        obtain ⟨t, ht, rfl, hown, hownq, hbr, hsz⟩ := hrel
        by_cases hlt2 : t < n2 + 1
        · obtain ⟨_, _, e1, _, e0⟩ := C2.out t (by omega)
          injection e1 with e1
          injection e1 with e1 e2
          subst e1 e2
          have e1 := ((bcell hbr).1 b (o + t) hb).trans e0
          clear e0
          obtain ⟨y1, y2⟩ := S2.out t
          obtain ⟨r1, r2⟩ := smp_mul q1 q2 y1 y2
          obtain ⟨z1, z2⟩ := DI.out t (m - n2 + t)
          have c0 := hown.cell (m - n2 + t) (by rw [tab_length]; omega)
          rw [tab_getD (by omega)] at c0
          have f0 := hown.notFrozen (m - n2 + t)
          have HS := Lib.hid (hown.set (m - n2 + t) (wrap32 (dRow q f2 (m - n2) F t (m - n2 + t) - q * f2 t)))
          rw [tab_set] at HS
          have HST : Hid (upd (dRow q f2 (m - n2) F t) (m - n2 + t) (wrap32 (dRow q f2 (m - n2) F t (m - n2 + t) - q * f2 t)) = dRow q f2 (m - n2) F (t + 1)) := rfl
          rw [HST.out] at HS
          have HFQ := Lib.hid (hownq.setFar (p := ⟨g, m - n2 + t, none⟩) (by simp; omega) (.int .i64 (wrap32 (dRow q f2 (m - n2) F t (m - n2 + t) - q * f2 t))))
          clear HST hown hownq
          generalize dRow q f2 (m - n2) F t (m - n2 + t) = z at *
          generalize f2 t = y at *
          have v1 : ((m : Int) - (n2 : Int) + (t : Int)).toNat = m - n2 + t := by omega
          have v2 : (0 : Int) ≤ (m : Int) - (n2 : Int) := by omega
          have v3 : (m : Int) - (n2 : Int) + (t : Int) < (n : Int) := by omega
          go_wp2_with (go_at_call 75; refine (implWrap_any _ _).mono ?_; rintro e w' ⟨rfl, rfl⟩)
          go_roundw
          case rel => exact ⟨t + 1, by omega, by go_num, HS.out, HFQ.out, hbr.setCell (by simp; omega) _, by simpa [World.setCell] using hsz⟩
          case measure => first | (simp [intOf]; done) | (simp [intOf]; omega)
        · obtain rfl : t = n2 + 1 := by omega
          rw [RS'.out] at hown
          go_wp2
          go_roundw
          case rel => exact ⟨j + 1, _, rfl, by have := HII.out; omega, by omega, hown, hownq, hbr, hsz⟩
          case measure => first | (simp [intOf]; done) | (simp [intOf]; omega)
    · have hjk : j = n - n2 := by omega
      subst hjk
      have HQT := Lib.hid (trim_any A3 c3 _ wr ((hownq.mono (Nat.le_refl _) hsz).argOf (by rw [tab_length]; omega) (QI.out _)))
      rw [tab_length, QE.out] at HQT
      have HTL := Lib.hid (trimL_le (tab n (R (n - n2))))
      rw [tab_length] at HTL
      have HTR : Hid (∀ wx, Below wr.heap.size wr wx → Calls Try.prog 59 #[.slice A1 n c1] wx (Fresh (trimL (tab n (R (n - n2)))) wx)) := by
        intro wx hx
        have o1 := (hown.below hx (by omega)).mono (Nat.le_refl _) (show h1 ≤ wx.heap.size by have := hx.size; omega)
        have := trim_any A1 c1 _ wx (o1.argOf (by rw [tab_length]; omega) (tab_all fun k _ => RI.out _ k))
        rwa [tab_length] at this
      have HQL : Hid (qr.length ≤ 1048576) := by
        have a := trimL_le (tab n (QP (n - n2)))
        rw [tab_length, QE.out] at a
        show _ ≤ _
        omega
      generalize trimL (tab n (R (n - n2))) = rr at *
      clear hown hownq
      go_wp2_with fail
      refine HQT.out.mono ?_
      rintro e w3 ⟨A5, c5, rfl, hO5, hb5⟩
      go_wp2_with fail
      refine (HTR.out _ hb5).mono ?_
      rintro e w4 ⟨A6, c6, rfl, hO6, hb6⟩
      have hz5 := hb5.size
      have hz6 := hb6.size
      have hbb := nxt (nxt hbr hb5 (by omega)) hb6 (by omega)
      have hO5' := hO5.below hb6 (Nat.le_refl _)
      go_wp2
      go_ret3
      exact IIntsIs.mk HR.out rfl rfl HQL.out (by have := HTL.out; omega) hO5' hO6 (by omega) hz6 (by omega) (Nat.le_refl _) (.inl (Nat.le_refl _)) (nxt hb0 hbb hsz0)
set_option maxHeartbeats 2000000 in
theorem specDivPoly_any (A : Option Addr) (c : Nat) (xs : List Int) (A2 : Option Addr) (c2 : Nat) (ys : List Int) (w : World) (h : Arg w A c xs) (h2 : Arg w A2 c2 ys) :
    Calls Try.prog 37 #[.slice A xs.length c, .slice A2 ys.length c2] w (IIntsIs (divOf xs ys) w) := by
  have HA := Lib.hid (l04Ok_any A c xs w _ h.sl (by have := h.len; omega))
  have HA2 := Lib.hid (l04Ok_any A2 c2 ys w _ h2.sl (by have := h2.len; omega))
  cases hs : polB xs
  · have HR := Lib.hid (divOf_no (xs := xs) (ys := ys) (by rw [hs]; rfl))
    rw [hs] at HA
    clear h h2 hs HA2
    generalize divOf xs ys = r at *
    generalize xs.length = m at *
    generalize ys.length = m2 at *
    go_enter Try.func37, Try.ntmps37
    go_wp2_with fail
    refine HA.out.mono ?_
    rintro e w' ⟨rfl, rfl⟩
    go_wp2
    go_ret3
    exact IIntsIs.nil_ HR.out (Below.refl _ _)
  rw [hs] at HA
  cases hs2 : polB ys
  · have HR := Lib.hid (divOf_no (xs := xs) (ys := ys) (by rw [hs, hs2]; rfl))
    rw [hs2] at HA2
    clear h h2 hs hs2
    generalize divOf xs ys = r at *
    generalize xs.length = m at *
    generalize ys.length = m2 at *
    go_enter Try.func37, Try.ntmps37
    go_wp2_with fail
    refine HA.out.mono ?_
    rintro e w' ⟨rfl, rfl⟩
    go_wp2_with fail
    refine HA2.out.mono ?_
    rintro e w' ⟨rfl, rfl⟩
    go_wp2
    go_ret3
    exact IIntsIs.nil_ HR.out (Below.refl _ _)
  rw [hs2] at HA2
  have hno : (polB xs && polB ys) = true := by rw [hs, hs2]; rfl
  obtain ⟨lx1, lx2⟩ := pol_len hs
  obtain ⟨ly1, ly2⟩ := pol_len hs2
  have S1 := Lib.hid (pol_smp hs)
  have S2 := Lib.hid (pol_smp hs2)
  unfold Smp at S1 S2
  clear hs hs2
  have EV : Hid (oddB (ys.getD (ys.length - 1) 0) = false → ([], [], 6) = divOf xs ys) := divOf_even hno
  have OD : Hid (oddB (ys.getD (ys.length - 1) 0) = true → _ = divOf xs ys) := divOf_yes hno
  clear hno
  have CL := Lib.hid (l00Own_any A c xs w h)
  obtain ⟨f, hf⟩ : ∃ f : Nat → Int, f = fun k => xs.getD k 0 := ⟨_, rfl⟩
  obtain ⟨f2, hf2⟩ : ∃ f : Nat → Int, f = fun k => ys.getD k 0 := ⟨_, rfl⟩
  have C2 : Hid (∀ k, k < ys.length → ∃ b o, A2 = some ⟨b, o, none⟩ ∧ b < w.heap.size ∧ w.cell? ⟨b, o + k, none⟩ = some (.int .i64 (f2 k))) := by
    intro k hk
    obtain ⟨b, o, e1, e2, e3⟩ := h2.sl (by omega)
    exact ⟨b, o, e1, e2, by rw [hf2]; exact e3 k hk⟩
  have XT : Hid (xs = tab xs.length f) := by rw [hf]; exact tab_of xs
  clear h h2
  simp only [← hf, ← congrFun hf _, ← hf2, ← congrFun hf2 _] at S1 S2 EV OD
  clear hf hf2
  generalize divOf xs ys = r at *
  generalize xs.length = n at *
  generalize hn2 : ys.length - 1 = n2 at *
  have hn2' : ys.length = n2 + 1 := by omega
  rw [hn2'] at C2 HA2 ly2 ⊢
  clear hn2 hn2' ly1
  obtain ⟨b, o, rfl, hb, e0⟩ := C2.out n2 (by omega)
  obtain ⟨p1, p2⟩ := S2.out n2
  generalize hy0 : f2 n2 = y0 at *
  have HY0 := Lib.hid hy0
  clear hy0
  have HOD := Lib.hid (l04Odd_any y0 w (smp64 ⟨p1, p2⟩))
  cases g2 : oddB y0
  · have HR := Lib.hid (EV.out g2)
    rw [g2] at HOD
    clear g2 EV OD CL XT
    go_enter Try.func37, Try.ntmps37
    go_wp2_with fail
    refine HA.out.mono ?_
    rintro e w' ⟨rfl, rfl⟩
    go_wp2_with fail
    refine HA2.out.mono ?_
    rintro e w' ⟨rfl, rfl⟩
    go_wp2_with (go_at_call 65; refine HOD.out.mono ?_; rintro e w' ⟨rfl, rfl⟩)
    go_ret3
    exact IIntsIs.nil_ HR.out (Below.refl _ _)
  have HR := Lib.hid (OD.out g2)
  rw [g2] at HOD
  clear g2 EV OD
  have HI := Lib.hid (l04Inverse_any y0 w p1 p2)
  obtain ⟨i1, i2⟩ := invN_lo p1 p2 5
  generalize invN y0 5 = inv at *
  have R0 : Hid (f = dvR f2 n2 inv f (n - n2) 0) := rfl
  have RS : Hid (∀ j, dRow (wrap32 (dvR f2 n2 inv f (n - n2) j (n - n2 - 1 - j + n2) * inv)) f2 (n - n2 - 1 - j) (dvR f2 n2 inv f (n - n2) j) (n2 + 1) = dvR f2 n2 inv f (n - n2) (j + 1)) := fun j => rfl
  have RI := Lib.hid (dvR_in (b := f2) (n := n2) (inv := inv) (K := n - n2) S1.out)
  have Q0 : Hid ([] = qRev f2 n2 inv f (n - n2) 0) := rfl
  have QS : Hid (∀ j, wrap32 (dvR f2 n2 inv f (n - n2) j (n - n2 - 1 - j + n2) * inv) :: qRev f2 n2 inv f (n - n2) j = qRev f2 n2 inv f (n - n2) (j + 1)) := fun j => rfl
  have QL := Lib.hid (qRev_length f2 n2 inv f (n - n2))
  have QI := Lib.hid (qRev_in f2 n2 inv f (n - n2))
  generalize qRev f2 n2 inv f (n - n2) = QR at *
  generalize dvR f2 n2 inv f (n - n2) = R at *
  go_enter Try.func37, Try.ntmps37
  go_wp2_with fail
  refine HA.out.mono ?_
  rintro e w' ⟨rfl, rfl⟩
  go_wp2_with fail
  refine HA2.out.mono ?_
  rintro e w' ⟨rfl, rfl⟩
  go_wp2_with (go_at_call 65; refine HOD.out.mono ?_; rintro e w' ⟨rfl, rfl⟩)
  refine HI.out.mono ?_
  rintro e w' ⟨rfl, rfl⟩
  clear e0 HI HA HA2 HOD
  go_wp2_with fail
  refine CL.out.mono ?_
  rintro e w1 ⟨A1, c1, rfl, hO1, hb1⟩
  have LX := Lib.hid (show xs.length = n by rw [XT.out, tab_length])
  rw [LX.out]
  have O1 : Hid (Own (w1.alloc (.cells #[] 2)) w.heap.size w1.heap.size A1 c1 (tab n (R 0))) := by
    have := hO1.alloc (.cells #[] 2)
    rw [XT.out, R0.out] at this
    exact this
  have hz1 := hb1.size
  have O3 : Hid (Own (w1.alloc (.cells #[] 2)) w1.heap.size (w1.alloc (.cells #[] 2)).heap.size (some ⟨w1.heap.size, 0, none⟩) 0 (QR 0)) := by rw [← Q0.out]; exact Own.empty w1
  have hb2 : Below w.heap.size w (w1.alloc (.cells #[] 2)) := hb1.alloc hz1 _
  have hz2 : w1.heap.size ≤ (w1.alloc (.cells #[] 2)).heap.size := by simp
  clear hO1 CL hb1
  go_wp2
  generalize w1.alloc (.cells #[] 2) = w2 at *
  generalize w1.heap.size = h1 at *
  go_loopw [10, 11, 12, 13] (fun v i _ _ wr => ∃ (j : Nat) (ii : Int) (A : Option Addr) (c : Nat), i = .int .i64 ii ∧ ii = (n : Int) - 1 - n2 - j ∧ j ≤ n - n2 ∧ v = .slice A j c ∧ Own wr w.heap.size h1 A1 c1 (tab n (R j)) ∧ Own wr h1 wr.heap.size A c (QR j) ∧ Below w.heap.size w wr ∧ h1 ≤ wr.heap.size) (fun _ i _ _ _ => (intOf i + 1).toNat)
  case atStart => exact ⟨0, _, _, _, rfl, by omega, by omega, rfl, O1.out, O3.out, hb2, hz2⟩
  case round =>
    obtain ⟨j, ii, A3, c3, rfl, hii, hj, rfl, hown, hownq, hbr, hsz⟩ := hrel
    by_cases hlt : j < n - n2
    · obtain ⟨m, rfl⟩ : ∃ m : Nat, ii = m := ⟨ii.toNat, by omega⟩
      have hm : n - n2 - 1 - j = m := by omega
      have hmn' : m + n2 < n := by omega
      obtain ⟨g, rfl, hlo, hhi⟩ := hown.form (by rw [tab_length]; omega)
      have c0 := hown.cell (m + n2) (by rw [tab_length]; omega)
      rw [tab_getD hmn'] at c0
      have RS' := Lib.hid (RS.out j)
      have QS' := Lib.hid (QS.out j)
      rw [hm] at RS' QS'
      have RI' := Lib.hid (RI.out j)
      have HII := Lib.hid hii
      have hql := QL.out j
      have HQL := Lib.hid hql
      clear hm hii hql
      obtain ⟨q, hq⟩ : ∃ q, wrap32 (R j (m + n2) * inv) = q := ⟨_, rfl⟩
      have qq : -2147483648 ≤ q ∧ q ≤ 2147483647 := by rw [← hq]; exact ⟨wrap32_lo _, wrap32_hi _⟩
      obtain ⟨q1, q2⟩ := qq
      rw [hq] at RS' QS'
      have HQQ := Lib.hid hq
      clear hq
      have DI := Lib.hid (dRow_in (q := q) (b := f2) (k := m) RI'.out)
      have D0 : Hid (R j = dRow q f2 m (R j) 0) := rfl
      generalize R j (m + n2) = x at *
      generalize R j = F at *
      have v1 : ((m : Int) + (n2 : Int)).toNat = m + n2 := by omega
      go_wp2_with fail
      refine (specMul_any _ _ _).mono ?_
      rw [HQQ.out]
      rintro e w' ⟨rfl, rfl⟩
      have hsl := hownq.sl.below ((Below.refl _ _).alloc (Nat.le_refl _) (.cells #[.int .i64 q] 2)) (Nat.le_refl _)
      have hnil := own_nil hownq
      have HNIL := Lib.hid hnil
      clear hnil c0 v1 HQQ
      go_wp2_with (at_builtin; refine wl_apps rfl (.tmp 57) (.tmp 58) rfl _ _ [q] 1 rfl (Own.one wr q) rfl wr.heap.size A3 c3 (QR j) j rfl hsl HQL.out.symm HNIL.out ?c1 ?c2 ?_)
      case c1 => omega
      case c2 => simp
      intro A4 c4 w4 hO4 hb4
      replace hO4 : Own w4 wr.heap.size w4.heap.size A4 c4 (QR (j + 1)) := by rw [← QS'.out]; exact hO4
      have hb5 : Below wr.heap.size wr w4 := ((Below.refl _ _).alloc (Nat.le_refl _) _).trans hb4
      have hown4 := hown.below hb5 hsz
      have hbr4 := nxt hbr hb5 hbr.size
      have hz4 := hb5.size
      have HO4 := Lib.hid (hO4.mono (lo' := h1) hsz (Nat.le_refl _))
      have HOWN := Lib.hid hown4
      rw [D0.out] at HOWN
      obtain ⟨h4, hh4⟩ : ∃ h4, h4 = w4.heap.size := ⟨_, rfl⟩
      rw [← hh4] at HO4
      have hz5 : h4 ≤ w4.heap.size := by omega
      have hz6 : h1 ≤ h4 := by omega
      clear hO4 hb4 hb5 hown hownq hown4 hsl hbr hsz hh4
      go_wp2
      go_loopw [13] (fun i wq => ∃ (t : Nat), t ≤ n2 + 1 ∧ i = .int .i64 t ∧ Own wq w.heap.size h1 (some ⟨g, 0, none⟩) c1 (tab n (dRow q f2 m F t)) ∧ Own wq h1 h4 A4 c4 (QR (j + 1)) ∧ Below w.heap.size w wq ∧ h4 ≤ wq.heap.size) (fun i _ => n2 + 1 - (intOf i).toNat)
      case atStart => exact ⟨0, by omega, rfl, HOWN.out, HO4.out, hbr4, hz5⟩
      case round =>
        clear HOWN HO4 hbr4 hz5 hz4
        obtain ⟨t, ht, rfl, hown, hownq, hbr, hsz⟩ := hrel
        by_cases hlt2 : t < n2 + 1
        · obtain ⟨_, _, e1, _, e0⟩ := C2.out t (by omega)
          injection e1 with e1
          injection e1 with e1 e2
          subst e1 e2
          have e1 := ((bcell hbr).1 b (o + t) hb).trans e0
          clear e0
          have c0 := hown.cell (m + t) (by rw [tab_length]; omega)
          rw [tab_getD (by omega)] at c0
          have f0 := hown.notFrozen (m + t)
          have HS := Lib.hid (hown.set (m + t) (wrap32 (dRow q f2 m F t (m + t) - wrap32 (q * f2 t))))
          rw [tab_set] at HS
          have HST : Hid (upd (dRow q f2 m F t) (m + t) (wrap32 (dRow q f2 m F t (m + t) - wrap32 (q * f2 t))) = dRow q f2 m F (t + 1)) := by rw [wrap32_subr]; exact rfl
          rw [HST.out] at HS
          have HFQ := Lib.hid (hownq.setFar (p := ⟨g, m + t, none⟩) (by simp; omega) (.int .i64 (wrap32 (dRow q f2 m F t (m + t) - wrap32 (q * f2 t)))))
          clear HST hown hownq
          generalize dRow q f2 m F t (m + t) = z at *
          generalize f2 t = y at *
          have k1 : IntKind.i64.wrap ((m : Int) + (t : Int)) = (m : Int) + (t : Int) := IntWalk.i64_in _ (by omega)
          have k2 : (0 : Int) ≤ (m : Int) + (t : Int) := by omega
          have k3 : ((m : Int) + (t : Int)).toNat = m + t := by omega
          have k4 : (m : Int) + (t : Int) < (n : Int) := by omega
          have k5 : (t : Int) < (n2 : Int) + 1 := by omega
          have k6 : (t : Int) ≤ (n2 : Int) := by omega
          go_wp2
          go_still_tail 18, (by kernel_rfl)
          still_call (still_of (specMul_any _ _ _))
          still_call (still_of (specSub_any _ _ _))
          repeat still_step
          refine wpStill_nil ?_
          change wpList _ _ _ _ _ wr.drew
          have c0' : wr.drew.cell? ⟨g, m + t, none⟩ = some (.int .i64 z) := c0
          have f0' : wr.drew.frozen? ⟨g, m + t, none⟩ = false := f0
          have HS' : Hid (Own (wr.drew.setCell ⟨g, m + t, none⟩ (.int .i64 (wrap32 (z - wrap32 (q * y))))) w.heap.size h1 (some ⟨g, 0, none⟩) c1 (tab n (dRow q f2 m F (t + 1)))) := HS.out
          have HF' : Hid (Own (wr.drew.setCell ⟨g, m + t, none⟩ (.int .i64 (wrap32 (z - wrap32 (q * y))))) h1 h4 A4 c4 (QR (j + 1))) := HFQ.out
          have hbr' : Below w.heap.size w wr.drew := hbr.drew
          have hsz' : h4 ≤ wr.drew.heap.size := hsz
          clear c0 f0 HS HFQ hbr hsz e1 k1 k2 k3 k4 k5
          generalize wr.drew = w2 at *
          go_wp2
          go_roundw
          case rel => exact ⟨t + 1, by omega, by go_num, HS'.out, HF'.out, hbr'.setCell (by simp; omega) _, by simpa [World.setCell] using hsz'⟩
          case measure => first | (simp [intOf]; done) | (simp [intOf]; omega)
        · obtain rfl : t = n2 + 1 := by omega
          rw [RS'.out] at hown
          have k6 : ¬ (n2 : Int) + 1 ≤ (n2 : Int) := by omega
          go_wp2
          go_roundw
          case rel => exact ⟨j + 1, _, A4, c4, rfl, by have := HII.out; omega, by omega, by rw [show 1 + j = j + 1 by omega], hown, hownq.mono (Nat.le_refl _) hsz, hbr, by omega⟩
          case measure => first | (simp [intOf]; done) | (simp [intOf]; omega)
    · have hjk : j = n - n2 := by omega
      subst hjk
      have HQT := Lib.hid (l04Trim_any A3 c3 _ wr (hownq.argOf (by rw [QL.out]; omega) (QI.out _)))
      rw [QL.out] at HQT
      have HTL := Lib.hid (trimL_le (tab n (R (n - n2))))
      rw [tab_length] at HTL
      have HTR : Hid (∀ wx, Below wr.heap.size wr wx → Calls Try.prog 70 #[.slice A1 n c1] wx (Fresh (trimL (tab n (R (n - n2)))) wx)) := by
        intro wx hx
        have o1 := (hown.below hx (by omega)).mono (Nat.le_refl _) (show h1 ≤ wx.heap.size by have := hx.size; omega)
        have := l04Trim_any A1 c1 _ wx (o1.argOf (by rw [tab_length]; omega) (tab_all fun k _ => RI.out _ k))
        rwa [tab_length] at this
      have HQL : Hid ((trimL (QR (n - n2))).length ≤ 1048576) := by
        have a := trimL_le (QR (n - n2))
        rw [QL.out] at a
        show _ ≤ _
        omega
      have hng : ¬ (0 : Int) ≤ ii := by omega
      generalize trimL (tab n (R (n - n2))) = rr at *
      generalize trimL (QR (n - n2)) = qr at *
      clear hown hownq
      go_wp2_with fail
      refine HQT.out.mono ?_
      rintro e w3 ⟨A5, c5, rfl, hO5, hb5⟩
      go_wp2_with fail
      refine (HTR.out _ hb5).mono ?_
      rintro e w4 ⟨A6, c6, rfl, hO6, hb6⟩
      have hz5 := hb5.size
      have hz6 := hb6.size
      have hzr := hbr.size
      have hbb := nxt (nxt hbr hb5 hzr) hb6 (by omega)
      have hO5' := hO5.below hb6 (Nat.le_refl _)
      go_wp2
      go_ret3
      exact IIntsIs.mk HR.out rfl rfl HQL.out (by have := HTL.out; omega) hO5' hO6 (by omega) hz6 (by omega) (Nat.le_refl _) (.inl (Nat.le_refl _)) hbb

end Go.Proofs.Ytppfcmhbbjgkfaa
