/- Walks: signals one after the other, on both sides. -/
import Derived.Test.YtablnknjbkacfaaJb
import Derived.Test.YtablnknjbkacfaaMa
namespace Go.Proofs.Ytablnknjbkacfaa
open Go.RowKit
set_option linter.unusedVariables false
set_option linter.unusedSimpArgs false

theorem intsIs_mk {r : List Int × Int} {ys : List Int} {code : Int} {w w' : World} {A : Option Addr} {n c : Nat} (h : (ys, code) = r) (hn : n = ys.length) (hl : ys.length ≤ 1048576) (hO : Own w' w.heap.size w'.heap.size A c ys) (hb : Below w.heap.size w w') :
    IntsIs r w (.returned (.tuple #[.slice A n c, .int .i64 code])) w' := by
  subst hn
  exact ⟨_, _, _, _, rfl, h, hl, hO, hb⟩
theorem intsIs_nil {r : List Int × Int} {code : Int} {w w' : World} (h : ([], code) = r) (hb : Below w.heap.size w w') :
    IntsIs r w (.returned (.tuple #[.slice none 0 0, .int .i64 code])) w' := ⟨[], _, none, 0, rfl, h, by simp, Own.nil _ _ _, hb⟩
/-- The empty slice that a composite literal makes. -/
theorem own_empty (w : World) : Own (w.alloc (.cells #[] 2)) w.heap.size (w.alloc (.cells #[] 2)).heap.size (some ⟨w.heap.size, 0, none⟩) 0 [] := by
  have := Own.lit w [] (by simp)
  simpa [vals] using this

set_option maxHeartbeats 1000000 in
theorem areSignals_any (A : Option Addr) (c n : Nat) (R : Nat → Row) (w : World) (B : Nat) (h : SS w B A n R) (hB : B ≤ w.heap.size) (hn : n ≤ 1048576) (hl : ∀ k, k < n → (R k).xs.length ≤ 1048576) :
    Calls Try.prog 16 #[.slice A n c] w fun e w' => e = .returned (.bool (sigs (fun k => (R k).xs) n)) ∧ w = w' := by
  have HS := Lib.hid h
  have HL := Lib.hid hl
  clear h hl
  have YES : Hid ((∀ k, k < n → sigB (R k).xs = true) → sigs (fun k => (R k).xs) n = true) := sigs_yes
  have NO : Hid (∀ k, k < n → sigB (R k).xs = false → sigs (fun k => (R k).xs) n = false) := fun k hk => sigs_no (f := fun k => (R k).xs) hk
  generalize sigs (fun k => (R k).xs) n = ok at *
  go_enter Try.func16, Try.ntmps16
  go_wp2
  go_loop [7, 4] (fun i _ => ∃ k : Nat, k ≤ n ∧ i = .int .i64 k ∧ ∀ j, j < k → sigB (R j).xs = true) (fun i _ => n - (intOf i).toNat)
  case atStart => exact ⟨0, by omega, rfl, fun j hj => absurd hj (by omega)⟩
  case round =>
    obtain ⟨k, hk, rfl, hall⟩ := hrel
    have HA := Lib.hid hall
    clear hall
    by_cases hlt : k < n
    · obtain ⟨b, o, rfl, hb, hcell⟩ := HS.out.top (by omega)
      have e1 := hcell k hlt
      clear hcell
      unfold rowV at e1
      have HI := Lib.hid (isSignal_any (R k).a (R k).c (R k).xs w _ (HS.out.rows k hlt).sl (by have := HL.out k hlt; omega))
      cases g : sigB (R k).xs
      · rw [g] at HI
        obtain rfl : ok = false := NO.out k hlt g
        clear g
        generalize (R k).xs.length = m at *
        generalize (R k).a = a at *
        generalize (R k).c = d at *
        go_wp2_with fail
        refine HI.out.mono ?_
        rintro e w' ⟨rfl, rfl⟩
        go_wp2
        go_ret
        exact ⟨rfl, rfl⟩
      · rw [g] at HI
        have G := Lib.hid g
        clear g
        obtain ⟨m, hm⟩ : ∃ m, m = (R k).xs.length := ⟨_, rfl⟩
        rw [← hm] at HI e1
        clear hm
        go_wp2_with fail
        refine HI.out.mono ?_
        rintro e w' ⟨rfl, rfl⟩
        go_wp2
        go_round
        case rel => exact ⟨k + 1, by omega, by go_num, fun j hj => by
          rcases Nat.lt_or_ge j k with h' | h'
          · exact HA.out j h'
          · obtain rfl : j = k := by omega
            exact G.out⟩
        case measure => simp [intOf]; omega
    · obtain rfl : ok = true := YES.out (fun j hj => HA.out j (by omega))
      go_wp2
      go_ret
      exact ⟨rfl, rfl⟩

set_option maxHeartbeats 2000000 in
theorem implJoin_any (A : Option Addr) (c n : Nat) (R : Nat → Row) (w : World) (B : Nat) (h : SS w B A n R) (hB : B ≤ w.heap.size) (hn : n + sumL (fun k => (R k).xs) n ≤ 1048576) :
    Calls Try.prog 7 #[.slice A n c] w (IntsIs (joinR (fun k => (R k).xs) n) w) := by
  obtain ⟨f, hf⟩ : ∃ f : Nat → List Int, f = fun k => (R k).xs := ⟨_, rfl⟩
  have hl : ∀ k, k < n → (R k).xs.length ≤ 1048576 := fun k hk => by have := sumL_at (fun k => (R k).xs) hk; omega
  have HA := Lib.hid (areSignals_any A c n R w B h hB (by omega) hl)
  have HS := Lib.hid h
  have SM : Hid (∀ k, k ≤ n → n + sumL f k ≤ 1048576) := fun k hk => by have := sumL_mono (fun k => (R k).xs) hk; rw [hf]; omega
  have HF : Hid (∀ k, f k = (R k).xs) := fun k => by rw [hf]
  clear h hl
  rw [← hf] at HA ⊢
  have hn' : n ≤ 1048576 := by omega
  clear hn hf
  cases hs : sigs f n
  · rw [hs] at HA
    have HJ := Lib.hid (joinR_bad hs)
    generalize joinR f n = r at *
    clear hs HS
    go_enter Try.func7, Try.ntmps7
    go_wp2_with fail
    refine HA.out.mono ?_
    rintro e w' ⟨rfl, rfl⟩
    go_wp2
    go_ret2
    exact intsIs_nil HJ.out (Below.refl _ _)
  · rw [hs] at HA
    have JF : Hid (∀ k, k ≤ n → 4000 < sumL f k → ([], 5) = joinR f n) := fun k => joinR_full hs
    have JO : Hid (¬ 4000 < sumL f n → (cat f n, 0) = joinR f n) := joinR_ok hs
    generalize joinR f n = r at *
    clear hs
    go_enter Try.func7, Try.ntmps7
    go_wp2_with fail
    refine HA.out.mono ?_
    rintro e w' ⟨rfl, rfl⟩
    go_wp2
    go_loopw [4, 13, 6] (fun v i _ wr => ∃ (k m : Nat) (A1 : Option Addr) (c1 : Nat), k ≤ n ∧ i = .int .i64 k ∧ v = .slice A1 m c1 ∧ Hid (m = sumL f k) ∧ m ≤ 4000 ∧ Own wr w.heap.size wr.heap.size A1 c1 (cat f k) ∧ Below w.heap.size w wr) (fun _ i _ _ => n - (intOf i).toNat)
    case atStart => exact ⟨0, 0, _, _, by omega, rfl, rfl, Lib.hid rfl, by omega, own_empty w, by (repeat (first | exact Below.refl _ _ | assumption | refine Below.setCell ?_ (by (try simp) <;> omega) _ | refine Below.alloc ?_ (by (try simp) <;> omega) _ | refine below_drewN_ ?_ | refine Below.drew ?_))⟩
    case round =>
      obtain ⟨k, m, A1, c1, hk, rfl, rfl, HM, hm4, hown, hbr⟩ := hrel
      have hsz := hbr.size
      by_cases hlt : k < n
      · obtain ⟨b, o, rfl, hb, hcell⟩ := HS.out.top (by omega)
        have e1 : wr.cell? ⟨b, o + k, none⟩ = some (rowV (R k)) := (hbr.cell (p := ⟨b, o + k, none⟩) (by exact Nat.lt_of_lt_of_le hb hB)).trans (hcell k hlt)
        clear hcell
        unfold rowV at e1
        have hrow := (HS.out.rows k hlt).below hbr hB
        have hsl := Lib.hid hrow.sl
        have hnl := Lib.hid hrow.nil
        clear hrow
        have HML : Hid (m = (cat f k).length) := by show m = (cat f k).length; rw [cat_length]; exact HM.out
        have hbd := SM.out (k + 1) hlt
        rw [sumL_succ] at hbd
        have hst : Hid (m + (R k).xs.length = sumL f (k + 1)) := by show _ = _; rw [sumL_succ, HF.out, HM.out]
        have hcat : Hid (cat f k ++ (R k).xs = cat f (k + 1)) := by show _ = _; rw [cat_succ, HF.out]
        rw [HF.out] at hbd
        generalize (R k).xs = xs at *
        generalize (R k).a = a at *
        generalize (R k).c = d at *
        obtain ⟨l, hl⟩ : ∃ l, xs.length = l := ⟨_, rfl⟩
        rw [hl] at e1 hst
        have hl2 : l ≤ 1048576 := by omega
        have HL := Lib.hid hl
        clear hbd hl
        go_wp2_with (at_builtin; refine wl_apps rfl (.tmp 17) (.tmp 18) rfl A1 c1 _ m rfl hown HML.out B a d xs l rfl hsl.out HL.out.symm hnl.out (by omega) hsz ?_)
        intro A' c' w' hown' hb'
        rw [hcat.out] at hown'
        by_cases h4 : 4000 < m + l
        · have HR := Lib.hid (JF.out (k + 1) hlt (by rw [← hst.out]; exact h4))
          have hbl := hbr.trans hb'
          clear hown' hb'
          go_wp2
          go_ret2
          exact intsIs_nil HR.out hbl
        · go_wp2
          go_roundw
          case rel => exact ⟨k + 1, m + l, A', c', by omega, by go_num, rfl, hst, by omega, hown', hbr.trans hb'⟩
          case measure => simp [intOf]; omega
      · obtain rfl : k = n := by omega
        have HR := Lib.hid (JO.out (by rw [← HM.out]; omega))
        go_wp2
        go_ret2
        exact intsIs_mk HR.out (by rw [cat_length]; exact HM.out) (by rw [cat_length, ← HM.out]; omega) hown hbr

set_option maxHeartbeats 2000000 in
theorem specJoin_any (A : Option Addr) (c n : Nat) (R : Nat → Row) (w : World) (B : Nat) (h : SS w B A n R) (hB : B ≤ w.heap.size) (hn : n + sumL (fun k => (R k).xs) n ≤ 1048576) :
    Calls Try.prog 5 #[.slice A n c] w (IntsIs (joinR (fun k => (R k).xs) n) w) := by
  obtain ⟨f, hf⟩ : ∃ f : Nat → List Int, f = fun k => (R k).xs := ⟨_, rfl⟩
  have HL : Hid (∀ k, k < n → (R k).xs.length ≤ 1048576) := fun k hk => by have := sumL_at (fun k => (R k).xs) hk; omega
  have HS := Lib.hid h
  have SM : Hid (∀ k, k ≤ n → n + sumL f k ≤ 1048576) := fun k hk => by have := sumL_mono (fun k => (R k).xs) hk; rw [hf]; omega
  have HF : Hid (∀ k, f k = (R k).xs) := fun k => by rw [hf]
  clear h
  rw [← hf]
  have hn' : n ≤ 1048576 := by omega
  clear hn hf
  have JB : Hid (∀ k, k < n → sigB (f k) = false → ([], 1) = joinR f n) := fun k hk hb => joinR_bad (sigs_no hk hb)
  have JF : Hid ((∀ k, k < n → sigB (f k) = true) → ∀ k, k ≤ n → 4000 < sumL f k → ([], 5) = joinR f n) := fun h k => joinR_full (sigs_yes h)
  have JO : Hid ((∀ k, k < n → sigB (f k) = true) → ¬ 4000 < sumL f n → (cat f n, 0) = joinR f n) := fun h => joinR_ok (sigs_yes h)
  generalize joinR f n = r at *
  go_enter Try.func5, Try.ntmps5
  go_wp2
  go_loop [5] (fun i => ∃ k : Nat, k ≤ n ∧ i = .int .i64 k ∧ ∀ j, j < k → sigB (f j) = true) (fun i => n - (intOf i).toNat)
  case atStart => exact ⟨0, by omega, rfl, fun j hj => absurd hj (by omega)⟩
  case round =>
    obtain ⟨k, hk, rfl, hall⟩ := hrel
    have HA := Lib.hid hall
    clear hall
    by_cases hlt : k < n
    · obtain ⟨b, o, rfl, hb, hcell⟩ := HS.out.top (by omega)
      have e1 := hcell k hlt
      clear hcell
      unfold rowV at e1
      have HI := Lib.hid (l03Ok_any (R k).a (R k).c (R k).xs w _ (HS.out.rows k hlt).sl (by have := HL.out k hlt; omega))
      cases g : sigB (R k).xs
      · rw [g] at HI
        have HB := Lib.hid (JB.out k hlt (by rw [HF.out]; exact g))
        clear g
        generalize (R k).xs.length = m at *
        generalize (R k).a = a at *
        generalize (R k).c = d at *
        go_wp2_with fail
        refine HI.out.mono ?_
        rintro e w' ⟨rfl, rfl⟩
        go_wp2
        go_ret2
        exact intsIs_nil HB.out (Below.refl _ _)
      · rw [g] at HI
        have G : Hid (sigB (f k) = true) := by show _ = _; rw [HF.out]; exact g
        clear g
        obtain ⟨m, hm⟩ : ∃ m, m = (R k).xs.length := ⟨_, rfl⟩
        rw [← hm] at HI e1
        clear hm
        go_wp2_with fail
        refine HI.out.mono ?_
        rintro e w' ⟨rfl, rfl⟩
        go_wp2
        go_round
        case rel => exact ⟨k + 1, by omega, by go_num, fun j hj => by
          rcases Nat.lt_or_ge j k with h' | h'
          · exact HA.out j h'
          · obtain rfl : j = k := by omega
            exact G.out⟩
        case measure => simp [intOf]; omega
    · have ALL : Hid (∀ k, k < n → sigB (f k) = true) := fun j hj => HA.out j (by omega)
      have JF2 := Lib.hid (JF.out ALL.out)
      have JO2 := Lib.hid (JO.out ALL.out)
      clear JF JO JB HA
      go_wp2
      go_loopw [4, 6, 7] (fun s v i wr => ∃ (k m : Nat) (A1 : Option Addr) (c1 : Nat), k ≤ n ∧ i = .int .i64 k ∧ s = .int .i64 m ∧ v = .slice A1 m c1 ∧ Hid (m = sumL f k) ∧ m ≤ 4000 ∧ Own wr w.heap.size wr.heap.size A1 c1 (cat f k) ∧ Below w.heap.size w wr) (fun _ _ i _ => n - (intOf i).toNat)
      case atStart => exact ⟨0, 0, _, _, by omega, rfl, rfl, rfl, Lib.hid rfl, by omega, own_empty w, by (repeat (first | exact Below.refl _ _ | assumption | refine Below.setCell ?_ (by (try simp) <;> omega) _ | refine Below.alloc ?_ (by (try simp) <;> omega) _ | refine below_drewN_ ?_ | refine Below.drew ?_))⟩
      case round =>
        obtain ⟨k, m, A1, c1, hk, rfl, rfl, rfl, HM, hm4, hown, hbr⟩ := hrel
        have hsz := hbr.size
        by_cases hlt : k < n
        · obtain ⟨b, o, rfl, hb, hcell⟩ := HS.out.top (by omega)
          have e1 : wr.cell? ⟨b, o + k, none⟩ = some (rowV (R k)) := (hbr.cell (p := ⟨b, o + k, none⟩) (by exact Nat.lt_of_lt_of_le hb hB)).trans (hcell k hlt)
          clear hcell
          unfold rowV at e1
          have hrow := (HS.out.rows k hlt).below hbr hB
          have hsl := Lib.hid hrow.sl
          have hnl := Lib.hid hrow.nil
          clear hrow
          have HML : Hid (m = (cat f k).length) := by show m = (cat f k).length; rw [cat_length]; exact HM.out
          have hbd := SM.out (k + 1) hlt
          rw [sumL_succ] at hbd
          have hst : Hid (m + (R k).xs.length = sumL f (k + 1)) := by show _ = _; rw [sumL_succ, HF.out, HM.out]
          have hcat : Hid (cat f k ++ (R k).xs = cat f (k + 1)) := by show _ = _; rw [cat_succ, HF.out]
          rw [HF.out] at hbd
          generalize (R k).xs = xs at *
          generalize (R k).a = a at *
          generalize (R k).c = d at *
          obtain ⟨l, hl⟩ : ∃ l, xs.length = l := ⟨_, rfl⟩
          rw [hl] at e1 hst
          have hl2 : l ≤ 1048576 := by omega
          have HL2 := Lib.hid hl
          clear hbd hl
          by_cases h4 : 4000 < m + l
          · have HR := Lib.hid (JF2.out (k + 1) hlt (by rw [← hst.out]; exact h4))
            go_wp2
            go_ret2
            exact intsIs_nil HR.out hbr
          · go_wp2_with (at_builtin; refine wl_apps rfl (.tmp 36) (.tmp 40) rfl A1 c1 _ m rfl hown HML.out B a d xs l rfl hsl.out HL2.out.symm hnl.out (by omega) hsz ?_)
            intro A' c' w' hown' hb'
            rw [hcat.out] at hown'
            go_wp2
            go_roundw
            case rel => exact ⟨k + 1, m + l, A', c', by omega, by go_num, by go_num, rfl, hst, by omega, hown', hbr.trans hb'⟩
            case measure => simp [intOf]; omega
        · obtain rfl : k = n := by omega
          have HR := Lib.hid (JO2.out (by rw [← HM.out]; omega))
          go_wp2
          go_ret2
          exact intsIs_mk HR.out (by rw [cat_length]; exact HM.out) (by rw [cat_length, ← HM.out]; omega) hown hbr

end Go.Proofs.Ytablnknjbkacfaa
