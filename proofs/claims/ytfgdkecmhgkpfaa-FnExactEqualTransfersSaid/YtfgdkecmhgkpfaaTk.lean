/- Walks: EqualTransfers. -/
import Derived.Test.YtfgdkecmhgkpfaaTh
import Derived.Test.YtfgdkecmhgkpfaaVc
namespace Go.Proofs.Ytfgdkecmhgkpfaa
open Go.RowKit
set_option linter.unusedVariables false
set_option linter.unusedSimpArgs false

/-- An operation that is not wanted, taken first: its slot stays as it was. -/
theorem wpAny_skip {P : Program} {md : Region.Mode} {ops : Array Oper} {Q : Exit → Act → World → Prop} {i : Nat} {oi : Oper} {fuel : Nat} {listed : Array Bool} {a : Act} {w : World} (hi : ops[i]? = some oi)
    (hs : Region.noSelect ops = true) (hf : Region.free md ops listed i = true) (hr : (Region.ready md ops listed).contains i = true)
    (hQ : ∀ c a w, Q (.panic c) (a.put oi.dst undef) w → Q (.panic c) a w) (hw : Region.wanted oi (yielded ops a.tmps) = false) (hp : a.put oi.dst undef = a)
    (h : wpAny P md ops Q fuel (listed.setIfInBounds i true) a w) : wpAny P md ops Q (fuel + 1) listed a w :=
  wpAny_take hi hs hf hr hQ (Or.inr ⟨hw, rfl⟩) (by rw [hp]; exact h)
def equalOf (xs ys us vs : List Int) : Bool := (trB xs ys && trB us vs) && decide (mulL xs vs = mulL us ys)
theorem equal_no {xs ys us vs : List Int} (h : (trB xs ys && trB us vs) = false) : false = equalOf xs ys us vs := by simp [equalOf, h]
theorem equal_yes {xs ys us vs : List Int} (h : (trB xs ys && trB us vs) = true) : decide (mulL xs vs = mulL us ys) = equalOf xs ys us vs := by simp [equalOf, h]

set_option maxRecDepth 100000 in
set_option maxHeartbeats 8000000 in
theorem l05Equal_any (bb g g2 : Nat) (A : Option Addr) (c : Nat) (xs : List Int) (B : Option Addr) (d : Nat) (ys : List Int) (A2 : Option Addr) (c2 : Nat) (us : List Int) (B2 : Option Addr) (d2 : Nat) (vs : List Int) (W0 : World) (P : Hid (Bx W0 g A xs.length c B ys.length d)) (Q : Hid (Bx W0 g2 A2 us.length c2 B2 vs.length d2)) (hgA : g < bb) (hgB : g2 < bb) (hgW : bb ≤ W0.heap.size)
    (h : Arg W0 A c xs) (h2 : Arg W0 B d ys) (h3 : Arg W0 A2 c2 us) (h4 : Arg W0 B2 d2 vs) (v1 : polB xs = true) (v2 : polB ys = true) (v3 : polB us = true) (v4 : polB vs = true)
    (hx1 : ∀ wx, Below bb W0 wx → Arg wx A c xs ∧ Arg wx B d ys ∧ Arg wx A2 c2 us ∧ Arg wx B2 d2 vs) :
    Calls Try.prog 32 #[.pointer (some ⟨g, 0, none⟩), .pointer (some ⟨g2, 0, none⟩)] W0 fun e w' => e = .returned (.bool (decide (mulL xs vs = mulL us ys))) ∧ Below W0.heap.size W0 w' := by
  have Mp : Hid (∀ wx, Below bb W0 wx → Calls Try.prog 47 #[.slice A xs.length c, .slice B2 vs.length d2] wx (Fresh (mulL xs vs) wx)) :=
    fun wx hx => l04Mul_any A c xs B2 d2 vs wx (hx1 wx hx).1 (hx1 wx hx).2.2.2 (by have := mulL_room v1 v4; omega)
  have Mq : Hid (∀ wx, Below bb W0 wx → Calls Try.prog 47 #[.slice A2 us.length c2, .slice B ys.length d] wx (Fresh (mulL us ys) wx)) :=
    fun wx hx => l04Mul_any A2 c2 us B d ys wx (hx1 wx hx).2.2.1 (hx1 wx hx).2.1 (by have := mulL_room v3 v2; omega)
  have Lp : Hid ((mulL xs vs).length ≤ 130) := mulL_le130 v1 v4
  have Lq : Hid ((mulL us ys).length ≤ 130) := mulL_le130 v3 v2
  have Ip := Lib.hid (mulL_in xs vs)
  have Iq := Lib.hid (mulL_in us ys)
  have HBX : Hid (∀ wx, Below bb W0 wx → Below bb W0 wx) := fun wx hx => hx
  clear h h2 h3 h4 v1 v2 v3 v4 hx1
  generalize mulL xs vs = lp at *
  generalize mulL us ys = lq at *
  generalize xs.length = n at *
  generalize ys.length = m at *
  generalize us.length = n2 at *
  generalize vs.length = m2 at *
  obtain ⟨e0, e1⟩ := P.out
  obtain ⟨e2, e3⟩ := Q.out
  go_enter Try.func32, Try.ntmps32
  go_wp2_with fail
  clear e0 e1 e2 e3
  go_region_held3 (fun w' => Below bb W0 w' ∧ w'.cell? ⟨g, 0, none⟩ = some (.slice A n c) ∧ w'.cell? ⟨g, 1, none⟩ = some (.slice B m d) ∧ w'.cell? ⟨g2, 0, none⟩ = some (.slice A2 n2 c2) ∧ w'.cell? ⟨g2, 1, none⟩ = some (.slice B2 m2 d2))
    ((first | assumption | (refine Hid.out ?_; assumption) | (exact b2_keep P Q hgA hgB (Below.drew (Below.refl _ _))) | (refine b2_keep P Q hgA hgB ?_; (repeat (first | exact Below.refl _ _ | assumption | refine Below.alloc ?_ (by (try simp) <;> omega) _ | refine below_drewN_ ?_ | refine Below.drew ?_)))))
    ((first | (go_at_call_of 47 (Value.slice A n c); refine (Mp.out _ (HBX.out _ (And.left (by assumption : Below bb W0 _ ∧ _)))).mono ?_; rintro e wp ⟨Ap, cp, rfl, Op', hbp⟩; have Op : Own wp W0.heap.size wp.heap.size Ap cp lp := Op'; have hSp := Lib.hid (b2_call P Q hgA hgB hgW (by assumption) hbp); have hWp : Below W0.heap.size W0 wp := nxt (w := W0.drew) ((Below.refl _ _).drew) hbp (Nat.le_refl _); have hzp : W0.heap.size ≤ wp.heap.size := hbp.size; clear hbp Op') | (go_at_call_of 47 (Value.slice A2 n2 c2); refine (Mq.out _ (HBX.out _ (And.left (by assumption : Below bb W0 _ ∧ _)))).mono ?_; rintro e wq ⟨Aq, cq, rfl, Oq', hbq⟩; have Oq : Own wq wp.heap.size wq.heap.size Aq cq lq := Oq'; have hSq := Lib.hid (b2_call P Q hgA hgB hgW (by assumption) hbq); have hWq : Below W0.heap.size W0 wq := nxt hWp hbq hWp.size; have hzq : wp.heap.size ≤ wq.heap.size := hbq.size; replace Op := Op.below hbq (by (try simp) <;> omega); clear hbq Oq') | (go_at_call 53; refine (l00Same_any _ _ lp _ _ lq _ ((Op.mono (Nat.le_refl _) (by (try simp) <;> omega)).argOf (by have := Lp.out; omega) Ip.out) (Oq.argOf (by have := Lq.out; omega) Iq.out)).mono ?_; rintro e ws ⟨rfl, ms, hws⟩; have hWs : Below W0.heap.size W0 ws := (by rw [hws]; exact below_drewN_ hWq); have hSs := Lib.hid (b2_keep P Q hgA hgB (hWs.mono hgW)); clear hws)))
  go_wp2
  go_ret
  exact ⟨rfl, hWs⟩
set_option maxRecDepth 100000 in
set_option maxHeartbeats 8000000 in
theorem specEqualTransfers_any (A : Option Addr) (c : Nat) (xs : List Int) (B : Option Addr) (d : Nat) (ys : List Int) (A2 : Option Addr) (c2 : Nat) (us : List Int) (B2 : Option Addr) (d2 : Nat) (vs : List Int) (w : World) (h : Arg w A c xs) (h2 : Arg w B d ys) (h3 : Arg w A2 c2 us) (h4 : Arg w B2 d2 vs) :
    Calls Try.prog 10 #[.agg #[.slice A xs.length c, .slice B ys.length d], .agg #[.slice A2 us.length c2, .slice B2 vs.length d2]] w (BIs (equalOf xs ys us vs) w) := by
  obtain ⟨W0, hW0⟩ : ∃ W0, W0 = ((w.alloc (.cells #[.slice A xs.length c, .slice B ys.length d] 27)).alloc (.cells #[.slice A2 us.length c2, .slice B2 vs.length d2] 27)) := ⟨_, rfl⟩
  have hb0 : Below w.heap.size w W0 := by rw [hW0]; (repeat (first | exact Below.refl _ _ | assumption | refine Below.setCell ?_ (by (try simp) <;> omega) _ | refine Below.alloc ?_ (by (try simp) <;> omega) _ | refine below_drewN_ ?_ | refine Below.drew ?_))
  have hz0 : w.heap.size + 2 ≤ W0.heap.size := by rw [hW0]; simp
  have P : Hid (Bx W0 w.heap.size A xs.length c B ys.length d) := by rw [hW0]; exact Lib.hid (by constructor <;> go_simp)
  have Q : Hid (Bx W0 (w.heap.size + 1) A2 us.length c2 B2 vs.length d2) := by rw [hW0]; exact Lib.hid (by constructor <;> go_simp)
  have HW0 := Lib.hid hW0
  clear hW0
  have hgA : w.heap.size < w.heap.size + 2 := by omega
  have hgB : w.heap.size + 1 < w.heap.size + 2 := by omega
  have hgW : w.heap.size + 2 ≤ W0.heap.size := hz0
  have HA := Lib.hid (l05Ok_any _ A c xs B d ys W0 P.out (h.below hb0) (h2.below hb0))
  have HB := Lib.hid (l05Ok_any _ A2 c2 us B2 d2 vs W0 Q.out (h3.below hb0) (h4.below hb0))
  cases hs : trB xs ys
  · have HR : Hid (false = equalOf xs ys us vs) := equal_no (by rw [hs]; rfl)
    rw [hs] at HA
    clear hs h h2 h3 h4 HB P Q
    generalize equalOf xs ys us vs = r at *
    generalize xs.length = n at *
    generalize ys.length = m at *
    generalize us.length = n2 at *
    generalize vs.length = m2 at *
    go_enter Try.func10, Try.ntmps10
    go_wp2_with fail
    rw [← HW0.out]
    refine HA.out.mono ?_
    rintro e w' ⟨rfl, rfl⟩
    go_wp2
    go_ret
    exact ⟨_, rfl, HR.out, hb0⟩
  rw [hs] at HA
  cases hs2 : trB us vs
  · have HR : Hid (false = equalOf xs ys us vs) := equal_no (by rw [hs, hs2]; rfl)
    rw [hs2] at HB
    clear hs hs2 h h2 h3 h4 P Q
    generalize equalOf xs ys us vs = r at *
    generalize xs.length = n at *
    generalize ys.length = m at *
    generalize us.length = n2 at *
    generalize vs.length = m2 at *
    go_enter Try.func10, Try.ntmps10
    go_wp2_with fail
    rw [← HW0.out]
    refine HA.out.mono ?_
    rintro e w' ⟨rfl, rfl⟩
    go_wp2_with fail
    refine HB.out.mono ?_
    rintro e w' ⟨rfl, rfl⟩
    go_wp2
    go_ret
    exact ⟨_, rfl, HR.out, hb0⟩
  rw [hs2] at HB
  obtain ⟨v1, v2, -⟩ := trB_inv hs
  obtain ⟨v3, v4, -⟩ := trB_inv hs2
  have HR : Hid (decide (mulL xs vs = mulL us ys) = equalOf xs ys us vs) := equal_yes (by rw [hs, hs2]; rfl)
  have HE := Lib.hid (l05Equal_any (w.heap.size + 2) w.heap.size (w.heap.size + 1) A c xs B d ys A2 c2 us B2 d2 vs W0 P Q hgA hgB hgW (h.below hb0) (h2.below hb0) (h3.below hb0) (h4.below hb0) v1 v2 v3 v4 (fun wx hx => have hy := hb0.trans (hx.mono (by omega)); ⟨h.below hy, h2.below hy, h3.below hy, h4.below hy⟩))
  clear hs hs2 h h2 h3 h4 v1 v2 v3 v4 P Q
  generalize equalOf xs ys us vs = r at *
  generalize decide (mulL xs vs = mulL us ys) = b at *
  generalize xs.length = n at *
  generalize ys.length = m at *
  generalize us.length = n2 at *
  generalize vs.length = m2 at *
  go_enter Try.func10, Try.ntmps10
  go_wp2_with fail
  rw [← HW0.out]
  refine HA.out.mono ?_
  rintro e w' ⟨rfl, rfl⟩
  go_wp2_with fail
  refine HB.out.mono ?_
  rintro e w' ⟨rfl, rfl⟩
  go_wp2_with fail
  refine HE.out.mono ?_
  rintro e w' ⟨rfl, hb1⟩
  go_wp2
  go_ret
  exact ⟨_, rfl, HR.out, nxt hb0 hb1 hb0.size⟩
set_option maxRecDepth 100000 in
set_option maxHeartbeats 8000000 in
theorem implEqualTransfers_any (A : Option Addr) (c : Nat) (xs : List Int) (B : Option Addr) (d : Nat) (ys : List Int) (A2 : Option Addr) (c2 : Nat) (us : List Int) (B2 : Option Addr) (d2 : Nat) (vs : List Int) (w : World) (h : Arg w A c xs) (h2 : Arg w B d ys) (h3 : Arg w A2 c2 us) (h4 : Arg w B2 d2 vs) :
    Calls Try.prog 12 #[.agg #[.slice A xs.length c, .slice B ys.length d], .agg #[.slice A2 us.length c2, .slice B2 vs.length d2]] w (BIs (equalOf xs ys us vs) w) := by
  obtain ⟨W0, hW0⟩ : ∃ W0, W0 = ((w.alloc (.cells #[.slice A xs.length c, .slice B ys.length d] 27)).alloc (.cells #[.slice A2 us.length c2, .slice B2 vs.length d2] 27)) := ⟨_, rfl⟩
  have hb0 : Below w.heap.size w W0 := by rw [hW0]; (repeat (first | exact Below.refl _ _ | assumption | refine Below.setCell ?_ (by (try simp) <;> omega) _ | refine Below.alloc ?_ (by (try simp) <;> omega) _ | refine below_drewN_ ?_ | refine Below.drew ?_))
  have hz0 : w.heap.size + 2 ≤ W0.heap.size := by rw [hW0]; simp
  have P : Hid (Bx W0 w.heap.size A xs.length c B ys.length d) := by rw [hW0]; exact Lib.hid (by constructor <;> go_simp)
  have Q : Hid (Bx W0 (w.heap.size + 1) A2 us.length c2 B2 vs.length d2) := by rw [hW0]; exact Lib.hid (by constructor <;> go_simp)
  have HW0 := Lib.hid hW0
  clear hW0
  have hgA : w.heap.size < w.heap.size + 2 := by omega
  have hgB : w.heap.size + 1 < w.heap.size + 2 := by omega
  have hgW : w.heap.size + 2 ≤ W0.heap.size := hz0
  have HA : Hid (∀ g W, Below w.heap.size w W → g < W.heap.size → W.cell? ⟨g, 0, none⟩ = some (.slice A xs.length c) → W.cell? ⟨g, 1, none⟩ = some (.slice B ys.length d) → W.cell? ⟨g, 2, none⟩ = some (.slice A2 us.length c2) → W.cell? ⟨g, 3, none⟩ = some (.slice B2 vs.length d2) → Calls Try.prog 33 #[.slice (some ⟨g, 0, none⟩) 2 2] W fun e w' => e = .returned (.bool (trB xs ys && trB us vs)) ∧ Below W.heap.size W w') :=
    fun g W hx hg c0 c1 c3 c4 => areTransfers_any g A c xs B d ys A2 c2 us B2 d2 vs W hg (h.below hx) (h2.below hx) (h3.below hx) (h4.below hx) c0 c1 c3 c4
  have HBX : Hid (∀ wx, Below (w.heap.size + 2) W0 wx → Below w.heap.size w wx) := fun wx hx => hb0.trans (hx.mono (by omega))
  cases hs : (trB xs ys && trB us vs)
  · have HR : Hid (false = equalOf xs ys us vs) := equal_no hs
    rw [hs] at HA
    clear hs h h2 h3 h4
    generalize equalOf xs ys us vs = r at *
    generalize xs.length = n at *
    generalize ys.length = m at *
    generalize us.length = n2 at *
    generalize vs.length = m2 at *
    go_enter Try.func12, Try.ntmps12
    go_wp2_with fail
    rw [← HW0.out]
    obtain ⟨e0, e1⟩ := P.out
    obtain ⟨e2, e3⟩ := Q.out
    refine wp_region_any (by kernel_rfl) ?_
    change wpAny _ _ _ _ _ _ _ (World.drew _)
    refine wpAny_ready (rs := [0, 1]) (by kernel_rfl) (by simp) ?_
    refine AllReady.cons rfl (fun K hK => ?_) (AllReady.cons rfl (fun K hK => ?_) AllReady.nil)
    all_goals
      go_simp
      refine hK _ _ ?_
      clear hK K
    · refine wpAny_ready (rs := [1]) (by kernel_rfl) (by simp) ?_
      refine AllReady.cons rfl (fun K hK => ?_) AllReady.nil
      go_simp
      refine hK _ _ ?_
      clear hK K
      refine wpAny_ready (rs := [2]) (by kernel_rfl) (by simp) ?_
      refine AllReady.cons rfl (fun K hK => ?_) AllReady.nil
      go_simp
      refine hK _ _ ?_
      clear hK K
      refine wpAny_ready (rs := [3]) (by kernel_rfl) (by simp) ?_
      refine AllReady.cons rfl (fun K hK => ?_) AllReady.nil
      go_simp
      go_wp2_with fail
      refine (HA.out _ _ (by (repeat (first | exact Below.refl _ _ | assumption | refine Below.setCell ?_ (by (try simp) <;> omega) _ | refine Below.alloc ?_ (by (try simp) <;> omega) _ | refine below_drewN_ ?_ | refine Below.drew ?_))) (by simp) (by go_simp) (by go_simp) (by go_simp) (by go_simp)).mono ?_
      rintro e w1 ⟨rfl, hba⟩
      have hW1 : Below W0.heap.size W0 w1 := (by refine nxt ?_ hba (by simp); (repeat (first | exact Below.refl _ _ | assumption | refine Below.setCell ?_ (by (try simp) <;> omega) _ | refine Below.alloc ?_ (by (try simp) <;> omega) _ | refine below_drewN_ ?_ | refine Below.drew ?_)))
      clear hba
      go_wp2_with fail
      refine wpAny_take (i := 4) (v := ?_) rfl (by kernel_rfl) (by kernel_rfl) (by kernel_rfl) (fun _ _ _ h => h) (Or.inl ⟨by rfl, ?_⟩) ?_
      rotate_left
      · intro w
        go_simp
        try with_reducible rfl
      refine wpAny_skip (i := 5) rfl (by kernel_rfl) (by kernel_rfl) (by kernel_rfl) (fun _ _ _ h => h) (by rfl) (by rfl) ?_
      refine wpAny_skip (i := 6) rfl (by kernel_rfl) (by kernel_rfl) (by kernel_rfl) (fun _ _ _ h => h) (by rfl) (by rfl) ?_
      refine wpAny_skip (i := 7) rfl (by kernel_rfl) (by kernel_rfl) (by kernel_rfl) (fun _ _ _ h => h) (by rfl) (by rfl) ?_
      refine wpAny_skip (i := 8) rfl (by kernel_rfl) (by kernel_rfl) (by kernel_rfl) (fun _ _ _ h => h) (by rfl) (by rfl) ?_
      refine wpAny_skip (i := 9) rfl (by kernel_rfl) (by kernel_rfl) (by kernel_rfl) (fun _ _ _ h => h) (by rfl) (by rfl) ?_
      refine wpAny_skip (i := 10) rfl (by kernel_rfl) (by kernel_rfl) (by kernel_rfl) (fun _ _ _ h => h) (by rfl) (by rfl) ?_
      refine wpAny_skip (i := 11) rfl (by kernel_rfl) (by kernel_rfl) (by kernel_rfl) (fun _ _ _ h => h) (by rfl) (by rfl) ?_
      refine wpAny_skip (i := 12) rfl (by kernel_rfl) (by kernel_rfl) (by kernel_rfl) (fun _ _ _ h => h) (by rfl) (by rfl) ?_
      refine wpAny_skip (i := 13) rfl (by kernel_rfl) (by kernel_rfl) (by kernel_rfl) (fun _ _ _ h => h) (by rfl) (by rfl) ?_
      refine wpAny_skip (i := 14) rfl (by kernel_rfl) (by kernel_rfl) (by kernel_rfl) (fun _ _ _ h => h) (by rfl) (by rfl) ?_
      refine wpAny_skip (i := 15) rfl (by kernel_rfl) (by kernel_rfl) (by kernel_rfl) (fun _ _ _ h => h) (by rfl) (by rfl) ?_
      refine wpAny_take (i := 16) (v := .bool false) rfl (by kernel_rfl) (by kernel_rfl) (by kernel_rfl) (fun _ _ _ h => h) (Or.inl ⟨by rfl, ?_⟩) ?_
      · intro w
        go_simp
        try with_reducible rfl
      refine wpAny_take (i := 17) (v := .bool false) rfl (by kernel_rfl) (by kernel_rfl) (by kernel_rfl) (fun _ _ _ h => h) (Or.inl ⟨by rfl, ?_⟩) ?_
      · intro w
        go_simp
        try with_reducible rfl
      refine wpAny_done (by kernel_rfl) ?_ _
      go_wp2
      go_ret
      exact ⟨_, rfl, HR.out, HBX.out _ (hW1.mono hgW)⟩
    · refine wpAny_ready (rs := [0]) (by kernel_rfl) (by simp) ?_
      refine AllReady.cons rfl (fun K hK => ?_) AllReady.nil
      go_simp
      refine hK _ _ ?_
      clear hK K
      refine wpAny_ready (rs := [2]) (by kernel_rfl) (by simp) ?_
      refine AllReady.cons rfl (fun K hK => ?_) AllReady.nil
      go_simp
      refine hK _ _ ?_
      clear hK K
      refine wpAny_ready (rs := [3]) (by kernel_rfl) (by simp) ?_
      refine AllReady.cons rfl (fun K hK => ?_) AllReady.nil
      go_simp
      go_wp2_with fail
      refine (HA.out _ _ (by (repeat (first | exact Below.refl _ _ | assumption | refine Below.setCell ?_ (by (try simp) <;> omega) _ | refine Below.alloc ?_ (by (try simp) <;> omega) _ | refine below_drewN_ ?_ | refine Below.drew ?_))) (by simp) (by go_simp) (by go_simp) (by go_simp) (by go_simp)).mono ?_
      rintro e w1 ⟨rfl, hba⟩
      have hW1 : Below W0.heap.size W0 w1 := (by refine nxt ?_ hba (by simp); (repeat (first | exact Below.refl _ _ | assumption | refine Below.setCell ?_ (by (try simp) <;> omega) _ | refine Below.alloc ?_ (by (try simp) <;> omega) _ | refine below_drewN_ ?_ | refine Below.drew ?_)))
      clear hba
      go_wp2_with fail
      refine wpAny_take (i := 4) (v := ?_) rfl (by kernel_rfl) (by kernel_rfl) (by kernel_rfl) (fun _ _ _ h => h) (Or.inl ⟨by rfl, ?_⟩) ?_
      rotate_left
      · intro w
        go_simp
        try with_reducible rfl
      refine wpAny_skip (i := 5) rfl (by kernel_rfl) (by kernel_rfl) (by kernel_rfl) (fun _ _ _ h => h) (by rfl) (by rfl) ?_
      refine wpAny_skip (i := 6) rfl (by kernel_rfl) (by kernel_rfl) (by kernel_rfl) (fun _ _ _ h => h) (by rfl) (by rfl) ?_
      refine wpAny_skip (i := 7) rfl (by kernel_rfl) (by kernel_rfl) (by kernel_rfl) (fun _ _ _ h => h) (by rfl) (by rfl) ?_
      refine wpAny_skip (i := 8) rfl (by kernel_rfl) (by kernel_rfl) (by kernel_rfl) (fun _ _ _ h => h) (by rfl) (by rfl) ?_
      refine wpAny_skip (i := 9) rfl (by kernel_rfl) (by kernel_rfl) (by kernel_rfl) (fun _ _ _ h => h) (by rfl) (by rfl) ?_
      refine wpAny_skip (i := 10) rfl (by kernel_rfl) (by kernel_rfl) (by kernel_rfl) (fun _ _ _ h => h) (by rfl) (by rfl) ?_
      refine wpAny_skip (i := 11) rfl (by kernel_rfl) (by kernel_rfl) (by kernel_rfl) (fun _ _ _ h => h) (by rfl) (by rfl) ?_
      refine wpAny_skip (i := 12) rfl (by kernel_rfl) (by kernel_rfl) (by kernel_rfl) (fun _ _ _ h => h) (by rfl) (by rfl) ?_
      refine wpAny_skip (i := 13) rfl (by kernel_rfl) (by kernel_rfl) (by kernel_rfl) (fun _ _ _ h => h) (by rfl) (by rfl) ?_
      refine wpAny_skip (i := 14) rfl (by kernel_rfl) (by kernel_rfl) (by kernel_rfl) (fun _ _ _ h => h) (by rfl) (by rfl) ?_
      refine wpAny_skip (i := 15) rfl (by kernel_rfl) (by kernel_rfl) (by kernel_rfl) (fun _ _ _ h => h) (by rfl) (by rfl) ?_
      refine wpAny_take (i := 16) (v := .bool false) rfl (by kernel_rfl) (by kernel_rfl) (by kernel_rfl) (fun _ _ _ h => h) (Or.inl ⟨by rfl, ?_⟩) ?_
      · intro w
        go_simp
        try with_reducible rfl
      refine wpAny_take (i := 17) (v := .bool false) rfl (by kernel_rfl) (by kernel_rfl) (by kernel_rfl) (fun _ _ _ h => h) (Or.inl ⟨by rfl, ?_⟩) ?_
      · intro w
        go_simp
        try with_reducible rfl
      refine wpAny_done (by kernel_rfl) ?_ _
      go_wp2
      go_ret
      exact ⟨_, rfl, HR.out, HBX.out _ (hW1.mono hgW)⟩
  have HR := Lib.hid (equal_yes hs)
  rw [hs] at HA
  obtain ⟨hs1, hs2⟩ : trB xs ys = true ∧ trB us vs = true := by simpa using hs
  obtain ⟨v1, v2, -⟩ := trB_inv hs1
  obtain ⟨v3, v4, -⟩ := trB_inv hs2
  have Mp : Hid (∀ wx, Below w.heap.size w wx → Calls Try.prog 35 #[.slice A xs.length c, .slice B2 vs.length d2] wx (Fresh (mulL xs vs) wx)) :=
    fun wx hx => mulPoly_any A c xs B2 d2 vs wx (h.below hx) (h4.below hx) (pol_smp v1) (pol_smp v4) (by have := mulL_room v1 v4; omega)
  have Mq : Hid (∀ wx, Below w.heap.size w wx → Calls Try.prog 35 #[.slice A2 us.length c2, .slice B ys.length d] wx (Fresh (mulL us ys) wx)) :=
    fun wx hx => mulPoly_any A2 c2 us B d ys wx (h3.below hx) (h2.below hx) (pol_smp v3) (pol_smp v2) (by have := mulL_room v3 v2; omega)
  have Lp : Hid ((mulL xs vs).length ≤ 130) := mulL_le130 v1 v4
  have Lq : Hid ((mulL us ys).length ≤ 130) := mulL_le130 v3 v2
  have Ip := Lib.hid (mulL_in xs vs)
  have Iq := Lib.hid (mulL_in us ys)
  clear hs hs1 hs2 h h2 h3 h4 v1 v2 v3 v4
  generalize equalOf xs ys us vs = r at *
  generalize mulL xs vs = lp at *
  generalize mulL us ys = lq at *
  generalize xs.length = n at *
  generalize ys.length = m at *
  generalize us.length = n2 at *
  generalize vs.length = m2 at *
  go_enter Try.func12, Try.ntmps12
  go_wp2_with fail
  rw [← HW0.out]
  go_region_held3 (fun w' => Below (w.heap.size + 2) W0 w' ∧ w'.cell? ⟨w.heap.size, 0, none⟩ = some (.slice A n c) ∧ w'.cell? ⟨w.heap.size, 1, none⟩ = some (.slice B m d) ∧ w'.cell? ⟨w.heap.size + 1, 0, none⟩ = some (.slice A2 n2 c2) ∧ w'.cell? ⟨w.heap.size + 1, 1, none⟩ = some (.slice B2 m2 d2))
    ((first | assumption | (refine Hid.out ?_; assumption) | (exact b2_keep P Q hgA hgB (Below.drew (Below.refl _ _))) | (refine b2_keep P Q hgA hgB ?_; (repeat (first | exact Below.refl _ _ | assumption | refine Below.alloc ?_ (by (try simp) <;> omega) _ | refine below_drewN_ ?_ | refine Below.drew ?_)))))
    ((first | (go_at_call 33; refine (HA.out _ _ (HBX.out _ (And.left (by assumption : Below (w.heap.size + 2) W0 _ ∧ _))) (by simp) (by go_simp) (by go_simp) (by go_simp) (by go_simp)).mono ?_; rintro e w1 ⟨rfl, hba⟩; have hS1 := Lib.hid (b2_call P Q hgA hgB hgW (by assumption) hba); have hW1 : Below W0.heap.size W0 w1 := (by refine nxt ?_ hba (by simp); (repeat (first | exact Below.refl _ _ | assumption | refine Below.alloc ?_ (by (try simp) <;> omega) _ | refine below_drewN_ ?_ | refine Below.drew ?_))); have hz1 := hW1.size; clear hba) | (go_at_call_of 35 (Value.slice A n c); refine (Mp.out _ (HBX.out _ (And.left (by assumption : Below (w.heap.size + 2) W0 _ ∧ _)))).mono ?_; rintro e wp ⟨Ap, cp, rfl, Op', hbp⟩; have Op : Own wp w1.heap.size wp.heap.size Ap cp lp := Op'; have hSp := Lib.hid (b2_call P Q hgA hgB hgW (by assumption) hbp); have hWp : Below W0.heap.size W0 wp := nxt hW1 hbp hW1.size; have hzp : w1.heap.size ≤ wp.heap.size := hbp.size; clear hbp Op') | (go_at_call_of 35 (Value.slice A2 n2 c2); refine (Mq.out _ (HBX.out _ (And.left (by assumption : Below (w.heap.size + 2) W0 _ ∧ _)))).mono ?_; rintro e wq ⟨Aq, cq, rfl, Oq', hbq⟩; have Oq : Own wq wp.heap.size wq.heap.size Aq cq lq := Oq'; have hSq := Lib.hid (b2_call P Q hgA hgB hgW (by assumption) hbq); have hWq : Below W0.heap.size W0 wq := nxt hWp hbq hWp.size; have hzq : wp.heap.size ≤ wq.heap.size := hbq.size; replace Op := Op.below hbq (by (try simp) <;> omega); clear hbq Oq') | (go_at_call 34; refine (same_any _ _ lp _ _ lq _ ((Op.mono (Nat.le_refl _) (by (try simp) <;> omega)).argOf (by have := Lp.out; omega) Ip.out) (Oq.argOf (by have := Lq.out; omega) Iq.out)).mono ?_; rintro e ws ⟨rfl, ms, hws⟩; have hWs : Below W0.heap.size W0 ws := (by rw [hws]; exact below_drewN_ hWq); have hSs := Lib.hid (b2_keep P Q hgA hgB (hWs.mono hgW)); clear hws)))
  go_wp2
  go_ret
  exact ⟨_, rfl, HR.out, HBX.out _ (hWs.mono hgW)⟩

end Go.Proofs.Ytfgdkecmhgkpfaa
