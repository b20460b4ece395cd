/- The walk of the reference's reading of numbers of at most ten digits. -/
import Derived.Test.YtplioelpmfeabaaDoorQq
namespace Go.Proofs.YtplioelpmfeabaaDoor
open Go.RowKit
set_option linter.unusedVariables false
set_option linter.unusedSimpArgs false

set_option maxRecDepth 100000 in
set_option maxHeartbeats 4000000 in
theorem l02Int_any (s : ByteArray) (w : World) (hs : s.size ≤ 1048576) : Calls Tryd.prog 55 #[.string s] w (NumB (int10 s.data.toList) w) := by
  obtain ⟨l, hl⟩ : ∃ l, l = s.data.toList := ⟨_, rfl⟩
  have hsz : l.length = s.size := by rw [hl, ← Lib.size_eq]
  have HLen : Hid ((strip l).length < 1 ∨ 10 < (strip l).length → int10 l = (0, false)) := int10_len
  have HDig : Hid ((strip l).all dig = false → int10 l = (0, false)) := int10_dig
  have HOk : Hid (1 ≤ (strip l).length → (strip l).length ≤ 10 → (strip l).all dig = true → int10 l = (numV l, true)) := int10_ok
  rw [← hl]
  by_cases h0 : s.size = 0
  · have h1 : s = ByteArray.empty := by
      rw [str_of s, ← hl, List.eq_nil_of_length_eq_zero (hsz.trans h0)]; rfl
    have HR : Hid (int10 l = (0, false)) := HLen.out (.inl (by have := strip_le l; omega))
    subst h1
    generalize int10 l = r at *
    clear h0 hs hl hsz HLen HDig HOk
    go_enter Tryd.func55, Tryd.ntmps55
    go_wp2
    go_ret2
    exact ret_numB HR.out (Below.refl _ _)
  · have hem : s.toList.isEmpty = false := by
      rw [Lib.toList_data, ← hl]
      cases hh : l with
      | nil => rw [hh] at hsz; simp at hsz; omega
      | cons c r => rfl
    have hpos : 0 < s.size := by omega
    clear h0
    have hhd : l.head? = some s[0] := by
      rw [hl, ← byte_get s 0 hpos (by rw [← Lib.size_eq]; exact hpos)]
      rw [List.head?_eq_getElem?, List.getElem?_eq_getElem]
    by_cases h45 : s[0].toNat = 45
    · have h45' : l.head? = some 45 := by rw [hhd]; congr 1; exact UInt8.toNat_inj.1 h45
      have b45 : ((s[0].toNat : Int) == 45) = true := by rw [h45]; rfl
      have hst : strip l = l.tail := if_pos h45'
      have hex : (s.extract 1 s.size).data.toList = strip l := by
        rw [Lib.extract_data, hst, hl, List.drop_one, List.take_of_length_le]
        rw [List.length_tail, ← Lib.size_eq]; exact Nat.le_refl _
      have hes : (strip l).length = s.size - 1 := by rw [hst, List.length_tail, hsz]
      have HNV : Hid (numV l = -(val (strip l) : Int)) := if_pos (by omega)
      have HEX := Lib.hid hex
      have HES := Lib.hid hes
      clear hex hes hst hhd h45' h45
      by_cases hlen : s.size - 1 < 1 ∨ 10 < s.size - 1
      · have HR : Hid (int10 l = (0, false)) := HLen.out (by rw [HES.out]; exact hlen)
        generalize int10 l = r at *
        clear HLen HDig HOk hl hsz
        rcases hlen with hlen | hlen
        · have he0 : (s.extract 1 s.size).toList = [] := by
            rw [Lib.toList_data, HEX.out]; exact List.eq_nil_of_length_eq_zero (by rw [HES.out]; omega)
          have he1 : (s.extract 1 s.size).toList.isEmpty = true := by rw [he0]; rfl
          go_enter Tryd.func55, Tryd.ntmps55
          go_wp2
          go_ret2
          exact ret_numB HR.out (Below.refl _ _)
        · have he1 : (s.extract 1 s.size).toList.isEmpty = false := by
            rw [Lib.toList_data, HEX.out]
            cases hh : strip l with
            | nil => have := HES.out; rw [hh] at this; simp at this; omega
            | cons c r => rfl
          go_enter Tryd.func55, Tryd.ntmps55
          go_wp2
          go_ret2
          exact ret_numB HR.out (Below.refl _ _)
      · have g1 : 1 ≤ s.size - 1 := by omega
        have g2 : s.size - 1 ≤ 10 := by omega
        clear hlen
        have HL := Lib.hid hl
        have HSZ := Lib.hid hsz
        clear hl hsz
        have he1 : (s.extract 1 s.size).toList.isEmpty = false := by
          rw [Lib.toList_data, HEX.out]
          cases hh : strip l with
          | nil => have := HES.out; rw [hh] at this; simp at this; omega
          | cons c r => rfl
        go_enter Tryd.func55, Tryd.ntmps55
        go_wp2
        clear he1
        obtain ⟨t, hT⟩ : ∃ t, t = s.extract 1 s.size := ⟨_, rfl⟩
        have ht : t.size = s.size - 1 := by rw [hT, Lib.size_eq, HEX.out, HES.out]
        have htl : Hid (t.data.toList = strip l) := by show _ = _; rw [hT]; exact HEX.out
        rw [← hT]
        clear hT
        have hts : t.size < s.size := by omega
        have ht1 : 1 ≤ t.size := by omega
        have ht10 : t.size ≤ 10 := by omega
        clear ht
        go_loop [5, 6] (fun n i => ∃ (k v : Nat), k ≤ t.size ∧ i = .int .i64 k ∧ n = .int .i64 v ∧ Hid (v = val (t.data.toList.take k)) ∧ Hid (∀ c ∈ t.data.toList.take k, dig c = true)) (fun _ i => t.size - (intOf i).toNat)
        case atStart => exact ⟨0, 0, by omega, rfl, rfl, Lib.hid rfl, Lib.hid (fun c hc => by simp at hc)⟩
        case round =>
          obtain ⟨k, v, hk, rfl, rfl, HV, HD⟩ := hrel
          by_cases hlt : k < t.size
          · have hv := val_small (k := k) HV.out (by rw [List.length_take]; omega) (by omega) HD.out
            cases g : dig t[k]
            · have HR : Hid (int10 l = (0, false)) := HDig.out (by rw [← htl.out]; exact all_no (byte_mem t k hlt) g)
              have hdg : t[k].toNat < 48 ∨ (48 ≤ t[k].toNat ∧ 57 < t[k].toNat) := by
                rcases Nat.lt_or_ge t[k].toNat 48 with h1 | h1
                · exact .inl h1
                · rcases Nat.lt_or_ge 57 t[k].toNat with h2 | h2
                  · exact .inr ⟨h1, h2⟩
                  · rw [dig_mk h1 h2] at g; cases g
              clear g
              generalize int10 l = r at *
              rcases hdg with g1 | ⟨g1, g2⟩
              all_goals
                go_wp2
                go_ret2
                exact ret_numB HR.out (Below.refl _ _)
            · obtain ⟨g1', g2'⟩ := dig_yes g
              have HV2 : Hid (10 * v + (t[k].toNat - 48) = val (t.data.toList.take (k + 1))) := by
                show _ = _
                rw [take_snoc t k hlt, val_snoc, ← HV.out]
              have HD2 : Hid (∀ c ∈ t.data.toList.take (k + 1), dig c = true) := fun c hc => by
                rw [take_snoc t k hlt, List.mem_append, List.mem_singleton] at hc
                rcases hc with hc | hc
                · exact HD.out c hc
                · rw [hc]; exact g
              clear g
              go_wp2
              go_round
              case rel => exact ⟨k + 1, 10 * v + (t[k].toNat - 48), by omega, by go_num, by go_num, HV2, HD2⟩
              case measure => simp [intOf]; omega
          · have hkn : k = t.size := by omega
            have HK := Lib.hid hkn
            clear hkn
            have hfull : t.data.toList.take k = strip l := by rw [HK.out, ← htl.out, List.take_of_length_le (by rw [← Lib.size_eq]; exact Nat.le_refl _)]
            have HVN : Hid (v = val (strip l)) := by show _ = _; rw [HV.out, hfull]
            have HDN : Hid ((strip l).all dig = true) := by show _ = _; rw [List.all_eq_true, ← hfull]; exact HD.out
            have hv : v < 1000000000000000000 := by
              have h1 := val_lt (l := strip l) (List.all_eq_true.1 HDN.out)
              rw [← HVN.out] at h1
              have h2 := pow10_le (k := (strip l).length) (by rw [← htl.out, ← Lib.size_eq]; omega)
              omega
            clear hfull
            have HNV2 : Hid (numV l = -(v : Int)) := by show _ = _; rw [HNV.out, HVN.out]
            have HR : Hid (int10 l = (-(v : Int), true)) := by
              show _ = _
              rw [← HNV2.out]
              exact HOk.out (by rw [← htl.out, ← Lib.size_eq]; exact ht1) (by rw [← htl.out, ← Lib.size_eq]; exact ht10) HDN.out
            generalize int10 l = r at *
            go_wp2
            go_ret2
            exact ret_numB HR.out (Below.refl _ _)
    · have h45' : l.head? ≠ some 45 := by
        rw [hhd]
        intro e
        exact h45 (congrArg UInt8.toNat (Option.some.inj e))
      have b45 : ((s[0].toNat : Int) == 45) = false := by rw [beq_eq_false_iff_ne]; omega
      have hst : strip l = l := if_neg h45'
      have HNV : Hid (numV l = (val (strip l) : Int)) := if_neg (by rw [hst]; omega)
      have HES : Hid ((strip l).length = s.size) := by show _ = _; rw [hst]; exact hsz
      have HTL : Hid (s.data.toList = strip l) := by show _ = _; rw [hst]; exact hl.symm
      clear hst hhd h45' h45
      by_cases hlen : 10 < s.size
      · have HR : Hid (int10 l = (0, false)) := HLen.out (by rw [HES.out]; exact .inr hlen)
        generalize int10 l = r at *
        clear HLen HDig HOk hl hsz
        go_enter Tryd.func55, Tryd.ntmps55
        go_wp2
        go_ret2
        exact ret_numB HR.out (Below.refl _ _)
      · have ht1 : 1 ≤ s.size := by omega
        have ht10 : s.size ≤ 10 := by omega
        clear hlen
        have HL := Lib.hid hl
        have HSZ := Lib.hid hsz
        clear hl hsz
        go_enter Tryd.func55, Tryd.ntmps55
        go_wp2
        obtain ⟨t, rfl⟩ : ∃ t, t = s := ⟨_, rfl⟩
        have htl : Hid (t.data.toList = strip l) := HTL
        go_loop [5, 6] (fun n i => ∃ (k v : Nat), k ≤ t.size ∧ i = .int .i64 k ∧ n = .int .i64 v ∧ Hid (v = val (t.data.toList.take k)) ∧ Hid (∀ c ∈ t.data.toList.take k, dig c = true)) (fun _ i => t.size - (intOf i).toNat)
        case atStart => exact ⟨0, 0, by omega, rfl, rfl, Lib.hid rfl, Lib.hid (fun c hc => by simp at hc)⟩
        case round =>
          obtain ⟨k, v, hk, rfl, rfl, HV, HD⟩ := hrel
          by_cases hlt : k < t.size
          · have hv := val_small (k := k) HV.out (by rw [List.length_take]; omega) (by omega) HD.out
            cases g : dig t[k]
            · have HR : Hid (int10 l = (0, false)) := HDig.out (by rw [← htl.out]; exact all_no (byte_mem t k hlt) g)
              have hdg : t[k].toNat < 48 ∨ (48 ≤ t[k].toNat ∧ 57 < t[k].toNat) := by
                rcases Nat.lt_or_ge t[k].toNat 48 with h1 | h1
                · exact .inl h1
                · rcases Nat.lt_or_ge 57 t[k].toNat with h2 | h2
                  · exact .inr ⟨h1, h2⟩
                  · rw [dig_mk h1 h2] at g; cases g
              clear g
              generalize int10 l = r at *
              rcases hdg with g1 | ⟨g1, g2⟩
              all_goals
                go_wp2
                go_ret2
                exact ret_numB HR.out (Below.refl _ _)
            · obtain ⟨g1', g2'⟩ := dig_yes g
              have HV2 : Hid (10 * v + (t[k].toNat - 48) = val (t.data.toList.take (k + 1))) := by
                show _ = _
                rw [take_snoc t k hlt, val_snoc, ← HV.out]
              have HD2 : Hid (∀ c ∈ t.data.toList.take (k + 1), dig c = true) := fun c hc => by
                rw [take_snoc t k hlt, List.mem_append, List.mem_singleton] at hc
                rcases hc with hc | hc
                · exact HD.out c hc
                · rw [hc]; exact g
              clear g
              go_wp2
              go_round
              case rel => exact ⟨k + 1, 10 * v + (t[k].toNat - 48), by omega, by go_num, by go_num, HV2, HD2⟩
              case measure => simp [intOf]; omega
          · have hkn : k = t.size := by omega
            have HK := Lib.hid hkn
            clear hkn
            have hfull : t.data.toList.take k = strip l := by rw [HK.out, ← htl.out, List.take_of_length_le (by rw [← Lib.size_eq]; exact Nat.le_refl _)]
            have HVN : Hid (v = val (strip l)) := by show _ = _; rw [HV.out, hfull]
            have HDN : Hid ((strip l).all dig = true) := by show _ = _; rw [List.all_eq_true, ← hfull]; exact HD.out
            have hv : v < 1000000000000000000 := by
              have h1 := val_lt (l := strip l) (List.all_eq_true.1 HDN.out)
              rw [← HVN.out] at h1
              have h2 := pow10_le (k := (strip l).length) (by rw [← htl.out, ← Lib.size_eq]; omega)
              omega
            clear hfull
            have HNV2 : Hid (numV l = (v : Int)) := by show _ = _; rw [HNV.out, HVN.out]
            have HR : Hid (int10 l = ((v : Int), true)) := by
              show _ = _
              rw [← HNV2.out]
              exact HOk.out (by rw [← htl.out, ← Lib.size_eq]; exact ht1) (by rw [← htl.out, ← Lib.size_eq]; exact ht10) HDN.out
            generalize int10 l = r at *
            go_wp2
            go_ret2
            exact ret_numB HR.out (Below.refl _ _)


end Go.Proofs.YtplioelpmfeabaaDoor
