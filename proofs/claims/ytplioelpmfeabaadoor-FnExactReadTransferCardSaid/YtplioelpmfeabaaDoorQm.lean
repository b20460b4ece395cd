/- Walks: a signal read from a text, on both sides. -/
import Derived.Test.YtplioelpmfeabaaDoorQl
namespace Go.Proofs.YtplioelpmfeabaaDoor
open Go.RowKit
set_option linter.unusedVariables false
set_option linter.unusedSimpArgs false

/-- A call that answers fresh numbers and whether there are any. -/
def NumsIs (r : List Int × Bool) (w : World) (e : Ending) (w' : World) : Prop :=
  ∃ A c, e = .returned (.tuple #[.slice A r.1.length c, .bool r.2]) ∧ Own w' w.heap.size w'.heap.size A c r.1 ∧ Below w.heap.size w w'
theorem numsIs_mk {r : List Int × Bool} {ys : List Int} {b : Bool} {w w' : World} {A : Option Addr} {n c lo hi : Nat} (h : r = (ys, b)) (hn : n = ys.length) (hO : Own w' lo hi A c ys) (hlo : w.heap.size ≤ lo) (hhi : hi ≤ w'.heap.size) (hb : Below w.heap.size w w') :
    NumsIs r w (.returned (.tuple #[.slice A n c, .bool b])) w' := by
  subst h hn
  exact ⟨_, _, rfl, hO.mono hlo hhi, hb⟩
theorem numsIs_nil {r : List Int × Bool} {b : Bool} {w w' : World} (h : r = ([], b)) (hb : Below w.heap.size w w') :
    NumsIs r w (.returned (.tuple #[.slice none 0 0, .bool b])) w' := by
  subst h
  exact ⟨none, 0, rfl, Own.nil _ _ _, hb⟩
theorem Own.same {w w' : World} {lo hi : Nat} {A : Option Addr} {c : Nat} {xs : List Int} (h : Own w lo hi A c xs) (hb : Below w.heap.size w w') : Own w' lo hi A c xs := by
  refine ⟨⟨h.1.1, ?_⟩, h.2⟩
  rcases h.1.2 with h0 | ⟨g, cap, cur, hv, hl, hg, r⟩
  · exact .inl h0
  · exact .inr ⟨g, cap, cur, hv, hl, by rw [hb.block g (Array.getElem?_eq_some_iff.1 hg).1]; exact hg, r⟩
theorem OwnG.toOwn {w : World} {lo hi : Nat} {A : Option Addr} {c : Nat} {xs : List Int} (h : OwnG 2 w lo hi A c (vals xs)) : Own w lo hi A c xs := by
  unfold OwnG at h
  rw [vals_length] at h
  exact h
theorem own_lit0 (w : World) : Own (w.alloc (.cells #[] 2)) w.heap.size (w.alloc (.cells #[] 2)).heap.size (some ⟨w.heap.size, 0, none⟩) 0 [] := OwnG.toOwn (xs := []) (OwnG.lit0 2 w)

/-- All words as numbers. -/
def rdAll (ws : List (List UInt8)) : List Int × Bool := if okAll ws = true then (numsOf ws, true) else ([], false)
theorem rdAll_yes {ws : List (List UInt8)} (h : okAll ws = true) : rdAll ws = (numsOf ws, true) := if_pos h
theorem rdAll_no {ws : List (List UInt8)} (h : okAll ws = false) : rdAll ws = ([], false) := by unfold rdAll; rw [h]; rfl
theorem okAll_take {ws : List (List UInt8)} (h : ∀ j, j < ws.length → (readN (ws.getD j [])).2 = true) : okAll ws = true := okAll_yes fun w hw => by
  obtain ⟨j, hj, rfl⟩ := List.getElem_of_mem hw
  have := h j hj
  simpa [List.getD_eq_getElem?_getD, hj] using this
theorem getD_mem {ws : List (List UInt8)} {j : Nat} (h : j < ws.length) : ws.getD j [] ∈ ws := by
  simp [List.getD_eq_getElem?_getD, h]
theorem numsOf_take {ws : List (List UInt8)} {k : Nat} (h : k < ws.length) : numsOf (ws.take (k + 1)) = numsOf (ws.take k) ++ [(readN (ws.getD k [])).1] := by
  rw [List.take_succ_eq_append_getElem h, numsOf_snoc]
  simp [List.getD_eq_getElem?_getD, h]

set_option maxRecDepth 100000 in
set_option maxHeartbeats 2000000 in
theorem readNumbers_any (A : Option Addr) (c n : Nat) (ws : List (List UInt8)) (w : World) (B0 : Nat) (h : SlG w B0 A (strV ws)) (hB0 : B0 ≤ w.heap.size) (hn : n = ws.length) (hl : n ≤ 1048577) (hp : ∀ p ∈ ws, p.length ≤ 1048576) (B : Nat) (hE : RdEnv B w) (hB : B ≤ w.heap.size) :
    Calls Tryd.prog 62 #[.slice A n c] w (NumsIs (rdAll ws) w) := by
  have HS := Lib.hid h
  have HE := Lib.hid hE
  have HPl : Hid (∀ k, k < n → (str (ws.getD k [])).size ≤ 1048576) := fun k hk => by rw [str_size]; exact hp _ (getD_mem (by omega))
  have HG : Hid (∀ k, k < n → (strV ws).getD k undef = .string (str (ws.getD k []))) := fun k hk => strV_get ws k (by omega)
  have HV : Hid ((strV ws).length = n) := by show _ = _; rw [strV_length, hn]
  have HNo : Hid (∀ k, k < n → (readN (ws.getD k [])).2 = false → rdAll ws = ([], false)) := fun k hk hb => rdAll_no (okAll_no (getD_mem (by omega)) hb)
  have HYes : Hid ((∀ j, j < n → (readN (ws.getD j [])).2 = true) → rdAll ws = (numsOf (ws.take n), true)) := fun hall => by
    rw [rdAll_yes (okAll_take (fun j hj => hall j (by omega))), hn, List.take_length]
  have HT : Hid (∀ k, k < n → numsOf (ws.take (k + 1)) = numsOf (ws.take k) ++ [(readN (ws.getD k [])).1]) := fun k hk => numsOf_take (by omega)
  have HTL : Hid (∀ k, k ≤ n → (numsOf (ws.take k)).length = k) := fun k hk => by rw [numsOf_length, List.length_take]; omega
  have HT0 : Hid (numsOf (ws.take 0) = []) := by show _ = _; rfl
  clear h hE hp
  obtain ⟨T, hT⟩ : ∃ T : Nat → List Int, T = fun k => numsOf (ws.take k) := ⟨_, rfl⟩
  obtain ⟨f, hf⟩ : ∃ f : Nat → List UInt8, f = fun k => ws.getD k [] := ⟨_, rfl⟩
  simp only [← congrFun hT _, ← congrFun hf _] at HPl HG HNo HYes HT HTL HT0
  clear hT hf
  generalize rdAll ws = r at *
  clear hn
  go_enter Tryd.func62, Tryd.ntmps62
  go_wp2
  go_loopw [4, 12, 6] (fun v i _ wr => ∃ (k : Nat) (A : Option Addr) (c : Nat), k ≤ n ∧ i = .int .i64 k ∧ v = .slice A k c ∧ Hid (∀ j, j < k → (readN (f j)).2 = true) ∧ Own wr w.heap.size wr.heap.size A c (T k) ∧ Below w.heap.size w wr) (fun _ i _ _ => n - (intOf i).toNat)
  case atStart => exact ⟨0, _, _, by omega, rfl, rfl, Lib.hid (fun j hj => absurd hj (by omega)), by rw [HT0.out]; exact own_lit0 w, by (repeat (first | exact Below.refl _ _ | assumption | refine Below.setCell ?_ (by (try simp) <;> omega) _ | refine Below.alloc ?_ (by (try simp) <;> omega) _ | refine below_drewN_ ?_ | refine Below.drew ?_))⟩
  case round =>
    obtain ⟨k, A1, c1, hk, rfl, rfl, HAll, hown, hbr⟩ := hrel
    have hsz := hbr.size
    by_cases hlt : k < n
    · obtain ⟨b, o, rfl, hb, hcell⟩ := HS.out (by rw [HV.out]; omega)
      have e1 : wr.cell? ⟨b, o + k, none⟩ = some (.string (str (f k))) := by
        rw [← HG.out k hlt, ← hcell k (by rw [HV.out]; exact hlt)]
        exact hbr.cell (p := ⟨b, o + k, none⟩) (by exact Nat.lt_of_lt_of_le hb hB0)
      clear hcell
      have HR : Hid (Calls Tryd.prog 15 #[.string (str (f k))] wr (NumB (readN (f k)) wr)) := implReadDecimal_any (str (f k)) wr (HPl.out k hlt) B (HE.out.below (hbr.mono hB)) (by omega)
      have HRB : Hid (∀ m b, readN (f k) = (m, b) → -1000000000000000000 < m ∧ m < 1000000000000000000) := fun m b => readN_bound
      rcases hr : readN (f k) with ⟨m, ok⟩
      have HM := Lib.hid (HRB.out m ok hr)
      cases ok
      · have HNil := Lib.hid (HNo.out k hlt (by rw [hr]))
        rw [hr] at HR
        clear hr hown HRB
        generalize str (f k) = q at *
        go_wp2_with fail
        refine HR.out.mono ?_
        rintro e w1 ⟨rfl, hb1⟩
        have hbr1 := hbr.trans (hb1.mono hbr.size)
        clear hb1
        go_wp2
        go_ret2
        exact numsIs_nil HNil.out hbr1
      · have HAll2 : Hid (∀ j, j < k + 1 → (readN (f j)).2 = true) := fun j hj => by
          rcases Nat.lt_or_ge j k with h' | h'
          · exact HAll.out j h'
          · obtain rfl : j = k := by omega
            rw [hr]
        have HN : Hid (T (k + 1) = T k ++ [m]) := by show _ = _; rw [HT.out k hlt, hr]
        rw [hr] at HR
        clear hr HRB
        generalize str (f k) = q at *
        go_wp2_with fail
        refine HR.out.mono ?_
        rintro e w1 ⟨rfl, hb1⟩
        have hown1 := hown.same hb1
        have hbr1 := hbr.trans (hb1.mono hbr.size)
        have hz1 := hb1.size
        clear hb1 hown
        go_wp2_with (at_builtin; refine wl_app1 rfl (.tmp 23) (.tmp 25) rfl A1 c1 (T k) m k rfl hown1 (HTL.out k hk).symm rfl (by omega) (by omega) ?_)
        intro A' c' w' hown' hb'
        rw [← HN.out] at hown'
        have hbr' := hbr1.trans hb'
        clear hb'
        go_wp2
        go_roundw
        case rel => exact ⟨k + 1, A', c', by omega, by go_num, rfl, HAll2, hown', hbr'⟩
        case measure => simp [intOf]; omega
    · have hkn : k = n := by omega
      subst hkn
      have HY := Lib.hid (HYes.out HAll.out)
      go_wp2
      go_ret2
      exact numsIs_mk HY.out (HTL.out k hk).symm hown (Nat.le_refl _) (Nat.le_refl _) hbr

set_option maxRecDepth 100000 in
set_option maxHeartbeats 2000000 in
theorem implReadSignal_any (s : ByteArray) (w : World) (hs : s.size ≤ 1048576) (B : Nat) (hE : RdEnv B w) (hM : MaxEnv B w) (hB : B ≤ w.heap.size) : Calls Tryd.prog 32 #[.string s] w (NumsIs (sigRead s.data.toList) w) := by
  obtain ⟨l, hl⟩ : ∃ l, l = s.data.toList := ⟨_, rfl⟩
  have HSp := Lib.hid (implSplitWords_any s w hs B hM hB)
  rw [← hl] at HSp ⊢
  have hll : l.length ≤ 1048576 := by rw [hl, ← Lib.size_eq]; exact hs
  obtain ⟨ws, hws⟩ : ∃ ws, ws = words l := ⟨_, rfl⟩
  have hwl : ws.length ≤ 1048577 := by rw [hws]; have := words_length l; omega
  have hwp : ∀ p ∈ ws, p.length ≤ 1048576 := by rw [hws]; exact fun p hp => by have := words_le l p hp; omega
  have HRd : Hid (∀ (A : Option Addr) (c : Nat) (w' : World) (B0 : Nat), Below w.heap.size w w' → SlG w' B0 A (strV ws) → B0 ≤ w'.heap.size → Calls Tryd.prog 62 #[.slice A ws.length c] w' (NumsIs (rdAll ws) w')) :=
    fun A c w' B0 hb h hB0 => readNumbers_any A c _ ws w' B0 h hB0 rfl hwl hwp B (hE.below (hb.mono hB)) (by have := hb.size; omega)
  have HPw : Hid (∀ w', Below w.heap.size w w' → PowAt B w') := fun w' hb => hE.pow.on (hb.mono hB)
  have HLn : Hid ((strV ws).length = ws.length) := strV_length ws
  have HNl : Hid ((numsOf ws).length = ws.length) := numsOf_length ws
  rw [← hws] at HSp
  have HBw : Hid (B ≤ w.heap.size) := hB
  clear hE hM hwp
  have HL := Lib.hid hl
  have HW := Lib.hid hws
  clear hl hws
  cases hok : okAll ws
  · have HR : Hid (sigRead l = ([], false)) := sigRead_no (.inl (by rw [← HW.out]; exact hok))
    rw [rdAll_no hok] at HRd
    clear hok
    generalize sigRead l = r at *
    go_enter Tryd.func32, Tryd.ntmps32
    go_wp2_with fail
    refine HSp.out.mono ?_
    rintro e w1 ⟨A1, c1, rfl, hO1, hb1⟩
    rw [HLn.out]
    have HO1 := Lib.hid hO1.sl
    clear hO1
    go_wp2_with fail
    refine (HRd.out _ _ _ _ hb1 HO1.out (Nat.le_refl _)).mono ?_
    rintro e w2 ⟨A2, c2, rfl, -, hb2⟩
    have hb := hb1.trans (hb2.mono hb1.size)
    clear hb1 hb2
    go_wp2
    go_ret2
    exact numsIs_nil HR.out hb
  · rw [rdAll_yes hok] at HRd
    cases hsg : sigB (numsOf ws)
    · have HR : Hid (sigRead l = ([], false)) := sigRead_no (.inr (.inl (by rw [← HW.out]; exact hsg)))
      have HSg := Lib.hid hsg
      clear hok hsg
      generalize sigRead l = r at *
      go_enter Tryd.func32, Tryd.ntmps32
      go_wp2_with fail
      refine HSp.out.mono ?_
      rintro e w1 ⟨A1, c1, rfl, hO1, hb1⟩
      rw [HLn.out]
      have HO1 := Lib.hid hO1.sl
      clear hO1
      go_wp2_with fail
      refine (HRd.out _ _ _ _ hb1 HO1.out (Nat.le_refl _)).mono ?_
      rintro e w2 ⟨A2, c2, rfl, hO2, hb2⟩
      have HI := Lib.hid (isSignal_any A2 c2 (numsOf ws) w2 _ hO2.sl (by rw [HNl.out]; omega))
      rw [HSg.out] at HI
      have hb := hb1.trans (hb2.mono hb1.size)
      clear hb1 hb2 hO2
      generalize (numsOf ws).length = m at *
      go_wp2_with fail
      refine HI.out.mono ?_
      rintro e w3 ⟨rfl, rfl⟩
      go_wp2
      go_ret2
      exact numsIs_nil HR.out hb
    · have h4 := (sigB_inv hsg).1
      have hsm := (sigB_inv hsg).2
      have HI64 : Hid (∀ x ∈ numsOf ws, I64 x) := fun x hx => by
        unfold smps at hsm
        rw [List.all_eq_true] at hsm
        have := inB_true.1 (hsm x hx)
        exact ⟨by omega, by omega⟩
      have HSg := Lib.hid hsg
      by_cases htx : textN (numsOf ws) = l
      · have HR : Hid (sigRead l = (numsOf ws, true)) := by show _ = _; rw [sigRead_yes (by rw [← HW.out]; exact hok) (by rw [← HW.out]; exact hsg) (by rw [← HW.out]; exact htx), ← HW.out]
        have HTX : Hid (str (textN (numsOf ws)) = s) := by show _ = _; rw [htx, HL.out]; exact (str_of s).symm
        clear hok hsg hsm htx
        generalize sigRead l = r at *
        go_enter Tryd.func32, Tryd.ntmps32
        go_wp2_with fail
        refine HSp.out.mono ?_
        rintro e w1 ⟨A1, c1, rfl, hO1, hb1⟩
        rw [HLn.out]
        have HO1 := Lib.hid hO1.sl
        clear hO1
        go_wp2_with fail
        refine (HRd.out _ _ _ _ hb1 HO1.out (Nat.le_refl _)).mono ?_
        rintro e w2 ⟨A2, c2, rfl, hO2, hb2⟩
        have HI := Lib.hid (isSignal_any A2 c2 (numsOf ws) w2 _ hO2.sl (by rw [HNl.out]; omega))
        rw [HSg.out] at HI
        have hb := hb1.trans (hb2.mono hb1.size)
        have HNT := Lib.hid (numbersText_any A2 c2 (numsOf ws) w2 (hO2.arg (Nat.le_refl _) (show ¬ 1048576 < (numsOf ws).length by omega) HI64.out) B (HPw.out _ hb) (by have := hb.size; have := HBw.out; omega))
        unfold StrIs at HNT
        rw [HTX.out] at HNT
        have HO2 := Lib.hid hO2
        have HZ := Lib.hid hb1.size
        clear hb1 hb2 hO2
        obtain ⟨xs, hxs⟩ : ∃ xs, xs = numsOf ws := ⟨_, rfl⟩
        rw [← hxs] at HI HNT HO2 HR h4 ⊢
        clear hxs
        obtain ⟨m, hm⟩ : ∃ m, m = xs.length := ⟨_, rfl⟩
        rw [← hm] at HI HNT h4 ⊢
        have HMl := Lib.hid hm
        clear hm
        go_wp2_with fail
        refine HI.out.mono ?_
        rintro e w3 ⟨rfl, rfl⟩
        go_wp2_with fail
        refine HNT.out.mono ?_
        rintro e w4 ⟨rfl, hb4⟩
        have hO4 := HO2.out.same hb4
        have hz4 := hb4.size
        have hb' := hb.trans (hb4.mono hb.size)
        clear hb hb4
        go_wp2
        go_ret2
        exact numsIs_mk HR.out HMl.out hO4 HZ.out hz4 hb'
      · have HR : Hid (sigRead l = ([], false)) := sigRead_no (.inr (.inr (by rw [← HW.out]; exact htx)))
        have hne : ((str (textN (numsOf ws))).toList == s.toList) = false := by
          rw [beq_eq_false_iff_ne, toList_str, Lib.toList_data, ← HL.out]
          exact htx
        clear hok hsg hsm htx
        generalize sigRead l = r at *
        obtain ⟨q, hq⟩ : ∃ q, q = str (textN (numsOf ws)) := ⟨_, rfl⟩
        rw [← hq] at hne
        have HQ := Lib.hid hq
        clear hq
        go_enter Tryd.func32, Tryd.ntmps32
        go_wp2_with fail
        refine HSp.out.mono ?_
        rintro e w1 ⟨A1, c1, rfl, hO1, hb1⟩
        rw [HLn.out]
        have HO1 := Lib.hid hO1.sl
        clear hO1
        go_wp2_with fail
        refine (HRd.out _ _ _ _ hb1 HO1.out (Nat.le_refl _)).mono ?_
        rintro e w2 ⟨A2, c2, rfl, hO2, hb2⟩
        have HI := Lib.hid (isSignal_any A2 c2 (numsOf ws) w2 _ hO2.sl (by rw [HNl.out]; omega))
        rw [HSg.out] at HI
        have hb := hb1.trans (hb2.mono hb1.size)
        have HNT := Lib.hid (numbersText_any A2 c2 (numsOf ws) w2 (hO2.arg (Nat.le_refl _) (show ¬ 1048576 < (numsOf ws).length by omega) HI64.out) B (HPw.out _ hb) (by have := hb.size; have := HBw.out; omega))
        unfold StrIs at HNT
        rw [← HQ.out] at HNT
        clear hb1 hb2 hO2
        generalize (numsOf ws).length = m at *
        go_wp2_with fail
        refine HI.out.mono ?_
        rintro e w3 ⟨rfl, rfl⟩
        go_wp2_with fail
        refine HNT.out.mono ?_
        rintro e w4 ⟨rfl, hb4⟩
        have hb' := hb.trans (hb4.mono hb.size)
        clear hb hb4
        go_wp2
        go_ret2
        exact numsIs_nil HR.out hb'

end Go.Proofs.YtplioelpmfeabaaDoor
