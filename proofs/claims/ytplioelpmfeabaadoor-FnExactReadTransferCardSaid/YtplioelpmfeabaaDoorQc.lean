/- Walks: the number that a text is, on both sides. -/
import Derived.Test.YtplioelpmfeabaaDoorQb
import Derived.Outline
namespace Go.Proofs.YtplioelpmfeabaaDoor
open Go.RowKit
set_option linter.unusedVariables false
set_option linter.unusedSimpArgs false

theorem l01Digit_yes (c : UInt8) (w : World) (h : dig c = true) : Calls Tryd.prog 68 #[.int .u8 c.toNat] w fun e w' => e = .returned (.bool true) ∧ w = w' := by
  obtain ⟨h1, h2⟩ := dig_yes h
  clear h
  go_enter Tryd.func68, Tryd.ntmps68
  go_wp2
  go_ret
  exact ⟨ret_bool (by simp; omega), rfl⟩
theorem l01Digit_no (c : UInt8) (w : World) (h : dig c = false) : Calls Tryd.prog 68 #[.int .u8 c.toNat] w fun e w' => e = .returned (.bool false) ∧ w = w' := by
  have h1 : c.toNat < 48 ∨ 57 < c.toNat := by
    rcases Nat.lt_or_ge c.toNat 48 with h1 | h1
    · exact .inl h1
    · rcases Nat.lt_or_ge 57 c.toNat with h2 | h2
      · exact .inr h2
      · rw [dig_mk h1 h2] at h; cases h
  clear h
  rcases h1 with h1 | h1
  · go_enter Tryd.func68, Tryd.ntmps68
    go_wp2
    go_ret
    exact ⟨rfl, rfl⟩
  · have h2 : 48 ≤ c.toNat := by omega
    go_enter Tryd.func68, Tryd.ntmps68
    go_wp2
    go_ret
    exact ⟨ret_bool (by simp; omega), rfl⟩

/-- A call that answers a number and whether there is one. -/
def NumB (r : Int × Bool) (w : World) (e : Ending) (w' : World) : Prop := e = .returned (.tuple #[.int .i64 r.1, .bool r.2]) ∧ Below w.heap.size w w'
theorem ret_numB {r : Int × Bool} {n : Int} {b : Bool} {w w' : World} (h : r = (n, b)) (hb : Below w.heap.size w w') : NumB r w (.returned (.tuple #[.int .i64 n, .bool b])) w' := by
  subst h
  exact ⟨rfl, hb⟩

theorem take_snoc (t : ByteArray) (k : Nat) (h : k < t.size) : t.data.toList.take (k + 1) = t.data.toList.take k ++ [t[k]] := by
  rw [List.take_succ_eq_append_getElem (by simpa using h)]; rfl
theorem byte_get (t : ByteArray) (k : Nat) (h : k < t.size) (h' : k < t.data.toList.length) : t.data.toList[k] = t[k] := rfl
theorem byte_mem (t : ByteArray) (k : Nat) (h : k < t.size) : t[k] ∈ t.data.toList := by
  rw [← byte_get t k h (by rw [← Lib.size_eq]; exact h)]
  exact List.getElem_mem _
theorem all_no {l : List UInt8} {c : UInt8} (h : c ∈ l) (hc : dig c = false) : l.all dig = false := by
  rw [List.all_eq_false]
  exact ⟨c, h, by simp [hc]⟩
theorem val_small {l : List UInt8} {v k : Nat} (hv : v = val l) (hl : l.length ≤ k) (hk : k ≤ 17) (h : ∀ c ∈ l, dig c = true) : v < 100000000000000000 := by
  subst hv
  have h1 := val_lt h
  have h2 : (10 : Nat) ^ l.length ≤ 10 ^ 17 := Nat.pow_le_pow_right (by omega) (by omega)
  have e17 : (10 : Nat) ^ 17 = 100000000000000000 := by decide
  omega
theorem str_ne {a b : List UInt8} (h : a ≠ b) : str a ≠ str b := fun e => h (str_inj e)
theorem toList_str (l : List UInt8) : (str l).toList = l := by rw [Lib.toList_data]; rfl

set_option maxRecDepth 100000 in
set_option maxHeartbeats 4000000 in
theorem l01Number_any (s : ByteArray) (w : World) (hs : s.size ≤ 1048576) : Calls Tryd.prog 46 #[.string s] w (NumB (readN s.data.toList) w) := by
  obtain ⟨l, hl⟩ : ∃ l, l = s.data.toList := ⟨_, rfl⟩
  have hsz : l.length = s.size := by rw [hl, ← Lib.size_eq]
  have HLen : Hid ((strip l).length < 1 ∨ 18 < (strip l).length → readN l = (0, false)) := readN_len
  have HDig : Hid ((strip l).all dig = false → readN l = (0, false)) := readN_dig
  have HOff : Hid (Lib.itoa (numV l) ≠ l → readN l = (0, false)) := readN_off
  have HOk : Hid (1 ≤ (strip l).length → (strip l).length ≤ 18 → (strip l).all dig = true → Lib.itoa (numV l) = l → readN l = (numV l, true)) := readN_ok
  rw [← hl]
  by_cases h0 : s.size = 0
  · have h1 : s = ByteArray.empty := by
      rw [str_of s, ← hl, List.eq_nil_of_length_eq_zero (hsz.trans h0)]; rfl
    have HR : Hid (readN l = (0, false)) := HLen.out (.inl (by have := strip_le l; omega))
    subst h1
    generalize readN l = r at *
    clear h0 hs hl hsz HLen HDig HOff HOk
    go_enter Tryd.func46, Tryd.ntmps46
    go_wp2
    go_ret2
    exact ret_numB HR.out (Below.refl _ _)
  · have hem : s.toList.isEmpty = false := by
      rw [Lib.toList_data, ← hl]
      cases hh : l with
      | nil => rw [hh] at hsz; simp at hsz; omega
      | cons c r => rfl
    have hpos : 0 < s.size := by omega
    clear h0
    have hhd : l.head? = some s[0] := by
      rw [hl, ← byte_get s 0 hpos (by rw [← Lib.size_eq]; exact hpos)]
      rw [List.head?_eq_getElem?, List.getElem?_eq_getElem]
    by_cases h45 : s[0].toNat = 45
    · have h45' : l.head? = some 45 := by rw [hhd]; congr 1; exact UInt8.toNat_inj.1 h45
      have b45 : ((s[0].toNat : Int) == 45) = true := by rw [h45]; rfl
      have hst : strip l = l.tail := if_pos h45'
      have hex : (s.extract 1 s.size).data.toList = strip l := by
        rw [Lib.extract_data, hst, hl, List.drop_one, List.take_of_length_le]
        rw [List.length_tail, ← Lib.size_eq]; exact Nat.le_refl _
      have hes : (strip l).length = s.size - 1 := by rw [hst, List.length_tail, hsz]
      have HNV : Hid (numV l = -(val (strip l) : Int)) := if_pos (by omega)
      have HEX := Lib.hid hex
      have HES := Lib.hid hes
      clear hex hes hst hhd h45' h45
      by_cases hlen : s.size - 1 < 1 ∨ 18 < s.size - 1
      · have HR : Hid (readN l = (0, false)) := HLen.out (by rw [HES.out]; exact hlen)
        generalize readN l = r at *
        clear HLen HDig HOff HOk hl hsz
        rcases hlen with hlen | hlen
        all_goals
          go_enter Tryd.func46, Tryd.ntmps46
          go_wp2
          go_ret2
          exact ret_numB HR.out (Below.refl _ _)
      · have g1 : 1 ≤ s.size - 1 := by omega
        have g2 : s.size - 1 ≤ 18 := by omega
        clear hlen
        have HL := Lib.hid hl
        have HSZ := Lib.hid hsz
        clear hl hsz
        go_enter Tryd.func46, Tryd.ntmps46
        go_wp2
        obtain ⟨t, hT⟩ : ∃ t, t = s.extract 1 s.size := ⟨_, rfl⟩
        have ht : t.size = s.size - 1 := by rw [hT, Lib.size_eq, HEX.out, HES.out]
        have htl : Hid (t.data.toList = strip l) := by show _ = _; rw [hT]; exact HEX.out
        rw [← hT]
        clear hT
        have hts : t.size < s.size := by omega
        have ht1 : 1 ≤ t.size := by omega
        have ht18 : t.size ≤ 18 := by omega
        clear ht
        go_loop [5, 6] (fun n i => ∃ (k v : Nat), k ≤ t.size ∧ i = .int .i64 k ∧ n = .int .i64 v ∧ Hid (v = val (t.data.toList.take k)) ∧ Hid (∀ c ∈ t.data.toList.take k, dig c = true)) (fun _ i => t.size - (intOf i).toNat)
        case atStart => exact ⟨0, 0, by omega, rfl, rfl, Lib.hid rfl, Lib.hid (fun c hc => by simp at hc)⟩
        case round =>
          obtain ⟨k, v, hk, rfl, rfl, HV, HD⟩ := hrel
          by_cases hlt : k < t.size
          · have hv := val_small (k := k) HV.out (by rw [List.length_take]; omega) (by omega) HD.out
            cases g : dig t[k]
            · have HR : Hid (readN l = (0, false)) := HDig.out (by rw [← htl.out]; exact all_no (byte_mem t k hlt) g)
              have G := Lib.hid (l01Digit_no t[k] w g)
              clear g
              generalize readN l = r at *
              go_wp2_with fail
              refine G.out.mono ?_
              rintro e w' ⟨rfl, rfl⟩
              go_wp2
              go_ret2
              exact ret_numB HR.out (Below.refl _ _)
            · have G := Lib.hid (l01Digit_yes t[k] w g)
              obtain ⟨g1', g2'⟩ := dig_yes g
              have HV2 : Hid (10 * v + (t[k].toNat - 48) = val (t.data.toList.take (k + 1))) := by
                show _ = _
                rw [take_snoc t k hlt, val_snoc, ← HV.out]
              have HD2 : Hid (∀ c ∈ t.data.toList.take (k + 1), dig c = true) := fun c hc => by
                rw [take_snoc t k hlt, List.mem_append, List.mem_singleton] at hc
                rcases hc with hc | hc
                · exact HD.out c hc
                · rw [hc]; exact g
              clear g
              go_wp2_with fail
              refine G.out.mono ?_
              rintro e w' ⟨rfl, rfl⟩
              go_wp2
              go_round
              case rel => exact ⟨k + 1, 10 * v + (t[k].toNat - 48), by omega, by go_num, by go_num, HV2, HD2⟩
              case measure => simp [intOf]; omega
          · have hkn : k = t.size := by omega
            have HK := Lib.hid hkn
            clear hkn
            have hfull : t.data.toList.take k = strip l := by rw [HK.out, ← htl.out, List.take_of_length_le (by rw [← Lib.size_eq]; exact Nat.le_refl _)]
            have HVN : Hid (v = val (strip l)) := by show _ = _; rw [HV.out, hfull]
            have HDN : Hid ((strip l).all dig = true) := by show _ = _; rw [List.all_eq_true, ← hfull]; exact HD.out
            have hv : v < 1000000000000000000 := by
              have h1 := val_lt (l := strip l) (List.all_eq_true.1 HDN.out)
              rw [← HVN.out] at h1
              have h2 := pow10_le (k := (strip l).length) (by rw [← htl.out, ← Lib.size_eq]; omega)
              omega
            clear hfull
            have HNV2 : Hid (numV l = -(v : Int)) := by show _ = _; rw [HNV.out, HVN.out]
            by_cases hc : Lib.itoa (-(v : Int)) = l
            · have HR : Hid (readN l = (-(v : Int), true)) := by
                show _ = _
                rw [← HNV2.out]
                exact HOk.out (by rw [← htl.out, ← Lib.size_eq]; exact ht1) (by rw [← htl.out, ← Lib.size_eq]; exact ht18) HDN.out (by rw [HNV2.out]; exact hc)
              have hsc : str (Lib.itoa (-(v : Int))) = s := by rw [hc, HL.out]; exact (str_of s).symm
              have HSC := Lib.hid hsc
              clear hc hsc
              generalize readN l = r at *
              go_wp2_with fail
              refine (l01Dec_any (-(v : Int)) w ⟨by omega, by omega⟩).mono ?_
              rintro e w' ⟨rfl, hb⟩
              rw [HSC.out]
              go_wp2
              go_ret2
              exact ret_numB HR.out hb
            · have HR : Hid (readN l = (0, false)) := HOff.out (by rw [HNV2.out]; exact hc)
              have hsc : str (Lib.itoa (-(v : Int))) ≠ s := fun e => hc (by rw [HL.out, ← e]; rfl)
              have HSC := Lib.hid hsc
              clear hc hsc
              generalize readN l = r at *
              go_wp2_with fail
              refine (l01Dec_any (-(v : Int)) w ⟨by omega, by omega⟩).mono ?_
              rintro e w' ⟨rfl, hb⟩
              generalize hq : str (Lib.itoa (-(v : Int))) = q at *
              have hqs : (q.toList == s.toList) = false := by
                rw [beq_eq_false_iff_ne, Lib.toList_data, Lib.toList_data]
                intro e
                exact HSC.out (by rw [str_of q, e]; exact (str_of s).symm)
              clear hq
              go_wp2
              go_ret2
              exact ret_numB HR.out hb
    · have h45' : l.head? ≠ some 45 := by
        rw [hhd]
        intro e
        exact h45 (congrArg UInt8.toNat (Option.some.inj e))
      have b45 : ((s[0].toNat : Int) == 45) = false := by rw [beq_eq_false_iff_ne]; omega
      have hst : strip l = l := if_neg h45'
      have HNV : Hid (numV l = (val (strip l) : Int)) := if_neg (by rw [hst]; omega)
      have HES : Hid ((strip l).length = s.size) := by show _ = _; rw [hst]; exact hsz
      have HTL : Hid (s.data.toList = strip l) := by show _ = _; rw [hst]; exact hl.symm
      clear hst hhd h45' h45
      by_cases hlen : 18 < s.size
      · have HR : Hid (readN l = (0, false)) := HLen.out (by rw [HES.out]; exact .inr hlen)
        generalize readN l = r at *
        clear HLen HDig HOff HOk hl hsz
        go_enter Tryd.func46, Tryd.ntmps46
        go_wp2
        go_ret2
        exact ret_numB HR.out (Below.refl _ _)
      · have ht1 : 1 ≤ s.size := by omega
        have ht18 : s.size ≤ 18 := by omega
        clear hlen
        have HL := Lib.hid hl
        have HSZ := Lib.hid hsz
        clear hl hsz
        go_enter Tryd.func46, Tryd.ntmps46
        go_wp2
        obtain ⟨t, rfl⟩ : ∃ t, t = s := ⟨_, rfl⟩
        have htl : Hid (t.data.toList = strip l) := HTL
        go_loop [5, 6] (fun n i => ∃ (k v : Nat), k ≤ t.size ∧ i = .int .i64 k ∧ n = .int .i64 v ∧ Hid (v = val (t.data.toList.take k)) ∧ Hid (∀ c ∈ t.data.toList.take k, dig c = true)) (fun _ i => t.size - (intOf i).toNat)
        case atStart => exact ⟨0, 0, by omega, rfl, rfl, Lib.hid rfl, Lib.hid (fun c hc => by simp at hc)⟩
        case round =>
          obtain ⟨k, v, hk, rfl, rfl, HV, HD⟩ := hrel
          by_cases hlt : k < t.size
          · have hv := val_small (k := k) HV.out (by rw [List.length_take]; omega) (by omega) HD.out
            cases g : dig t[k]
            · have HR : Hid (readN l = (0, false)) := HDig.out (by rw [← htl.out]; exact all_no (byte_mem t k hlt) g)
              have G := Lib.hid (l01Digit_no t[k] w g)
              clear g
              generalize readN l = r at *
              go_wp2_with fail
              refine G.out.mono ?_
              rintro e w' ⟨rfl, rfl⟩
              go_wp2
              go_ret2
              exact ret_numB HR.out (Below.refl _ _)
            · have G := Lib.hid (l01Digit_yes t[k] w g)
              obtain ⟨g1', g2'⟩ := dig_yes g
              have HV2 : Hid (10 * v + (t[k].toNat - 48) = val (t.data.toList.take (k + 1))) := by
                show _ = _
                rw [take_snoc t k hlt, val_snoc, ← HV.out]
              have HD2 : Hid (∀ c ∈ t.data.toList.take (k + 1), dig c = true) := fun c hc => by
                rw [take_snoc t k hlt, List.mem_append, List.mem_singleton] at hc
                rcases hc with hc | hc
                · exact HD.out c hc
                · rw [hc]; exact g
              clear g
              go_wp2_with fail
              refine G.out.mono ?_
              rintro e w' ⟨rfl, rfl⟩
              go_wp2
              go_round
              case rel => exact ⟨k + 1, 10 * v + (t[k].toNat - 48), by omega, by go_num, by go_num, HV2, HD2⟩
              case measure => simp [intOf]; omega
          · have hkn : k = t.size := by omega
            have HK := Lib.hid hkn
            clear hkn
            have hfull : t.data.toList.take k = strip l := by rw [HK.out, ← htl.out, List.take_of_length_le (by rw [← Lib.size_eq]; exact Nat.le_refl _)]
            have HVN : Hid (v = val (strip l)) := by show _ = _; rw [HV.out, hfull]
            have HDN : Hid ((strip l).all dig = true) := by show _ = _; rw [List.all_eq_true, ← hfull]; exact HD.out
            have hv : v < 1000000000000000000 := by
              have h1 := val_lt (l := strip l) (List.all_eq_true.1 HDN.out)
              rw [← HVN.out] at h1
              have h2 := pow10_le (k := (strip l).length) (by rw [← htl.out, ← Lib.size_eq]; omega)
              omega
            clear hfull
            have HNV2 : Hid (numV l = (v : Int)) := by show _ = _; rw [HNV.out, HVN.out]
            by_cases hc : Lib.itoa ((v : Int)) = l
            · have HR : Hid (readN l = ((v : Int), true)) := by
                show _ = _
                rw [← HNV2.out]
                exact HOk.out (by rw [← htl.out, ← Lib.size_eq]; exact ht1) (by rw [← htl.out, ← Lib.size_eq]; exact ht18) HDN.out (by rw [HNV2.out]; exact hc)
              have hsc : str (Lib.itoa ((v : Int))) = t := by rw [hc, HL.out]; exact (str_of t).symm
              have HSC := Lib.hid hsc
              clear hc hsc
              generalize readN l = r at *
              go_wp2_with fail
              refine (l01Dec_any ((v : Int)) w ⟨by omega, by omega⟩).mono ?_
              rintro e w' ⟨rfl, hb⟩
              rw [HSC.out]
              go_wp2
              go_ret2
              exact ret_numB HR.out hb
            · have HR : Hid (readN l = (0, false)) := HOff.out (by rw [HNV2.out]; exact hc)
              have hsc : str (Lib.itoa ((v : Int))) ≠ t := fun e => hc (by rw [HL.out, ← e]; rfl)
              have HSC := Lib.hid hsc
              clear hc hsc
              generalize readN l = r at *
              go_wp2_with fail
              refine (l01Dec_any ((v : Int)) w ⟨by omega, by omega⟩).mono ?_
              rintro e w' ⟨rfl, hb⟩
              generalize hq : str (Lib.itoa ((v : Int))) = q at *
              have hqs : (q.toList == t.toList) = false := by
                rw [beq_eq_false_iff_ne, Lib.toList_data, Lib.toList_data]
                intro e
                exact HSC.out (by rw [str_of q, e]; exact (str_of t).symm)
              clear hq
              go_wp2
              go_ret2
              exact ret_numB HR.out hb

theorem specReadDecimal_any (s : ByteArray) (w : World) (hs : s.size ≤ 1048576) : Calls Tryd.prog 14 #[.string s] w (NumB (readN s.data.toList) w) := by
  have HC := Lib.hid (l01Number_any s w hs)
  generalize readN s.data.toList = r at *
  clear hs
  obtain ⟨n, b⟩ := r
  go_enter Tryd.func14, Tryd.ntmps14
  go_wp2_with fail
  refine HC.out.mono ?_
  rintro e w' ⟨rfl, hb⟩
  go_wp2
  go_ret2
  exact ⟨rfl, hb⟩

/-- What the program's reading of numbers asks of the world. -/
structure RdEnv (B : Nat) (w : World) : Prop where
  pow : Lib.TabBelow Tryd.prog B w "internal/strconv.uint64pow10" .u64 Lib.pow10Tab
  es : ∃ tp p, w.var? Tryd.prog "strconv.ErrSyntax" = some #[.iface tp p]
  er : ∃ tp p, w.var? Tryd.prog "strconv.ErrRange" = some #[.iface tp p]
  big : 2 < B
theorem glES : Tryd.prog.globalNamed "strconv.ErrSyntax" = some 1 := by kernel_rfl
theorem glER : Tryd.prog.globalNamed "strconv.ErrRange" = some 2 := by kernel_rfl
theorem var_below {w w' : World} {B g : Nat} {name : String} {v : Array Value} (hg : Tryd.prog.globalNamed name = some g) (h : w.var? Tryd.prog name = some v) (hb : Below B w w') (hB : g < B) : w'.var? Tryd.prog name = some v := by
  unfold World.var? at *
  rw [hg] at h ⊢
  simp only [Option.bind_some] at h ⊢
  rw [hb.block g hB]
  exact h
theorem RdEnv.below {B : Nat} {w w' : World} (h : RdEnv B w) (hb : Below B w w') : RdEnv B w' := by
  obtain ⟨tp, p, h1⟩ := h.es
  obtain ⟨tp', p', h2⟩ := h.er
  have := h.big
  exact ⟨h.pow.on hb, ⟨tp, p, var_below glES h1 hb (by omega)⟩, ⟨tp', p', var_below glER h2 hb (by omega)⟩, h.big⟩

end Go.Proofs.YtplioelpmfeabaaDoor
