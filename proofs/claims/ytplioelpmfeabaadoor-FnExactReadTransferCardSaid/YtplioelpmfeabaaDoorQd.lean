/- Walks: the number that a text is, the program's side; the law ReadDecimal's parts. -/
import Derived.Test.YtplioelpmfeabaaDoorQc
namespace Go.Proofs.YtplioelpmfeabaaDoor
open Go.RowKit
set_option linter.unusedVariables false
set_option linter.unusedSimpArgs false

theorem below_bytes {w w' : World} (h : w' = w ∨ ∃ t, w' = Lib.bytesWorld w 5 t) : Below w.heap.size w w' := by
  rcases h with rfl | ⟨t, rfl⟩
  · exact Below.refl _ _
  · exact Lib.bytesWorld_below _ _ _

set_option maxRecDepth 100000 in
set_option maxHeartbeats 2000000 in
theorem implReadDecimal_any (s : ByteArray) (w : World) (hs : s.size ≤ 1048576) (B : Nat) (hE : RdEnv B w) (hB : B ≤ w.heap.size) : Calls Tryd.prog 15 #[.string s] w (NumB (readN s.data.toList) w) := by
  obtain ⟨l, hl⟩ : ∃ l, l = s.data.toList := ⟨_, rfl⟩
  by_cases hok : ∃ n, Lib.parseIntB 64 l = .ok n
  · obtain ⟨n, hn⟩ := hok
    have HR : Hid (readN l = if Lib.itoa n = l ∧ (strip l).length ≤ 18 then (n, true) else (0, false)) := read_parse hn
    have hbd := Lib.parseIntB_bounds hn
    have HI : Hid (I64 n) := by
      have e : ((2 ^ (64 - 1) : Nat) : Int) = 9223372036854775808 := by decide
      rw [e] at hbd
      exact ⟨by omega, by omega⟩
    have HP := Lib.hid (Tryd.strconv_ParseInt_10_at64_ok s (by omega) n (by rw [← hl]; exact hn) w)
    have HT := Lib.hid hE.pow
    have HTR : Hid ((⟨(Lib.trimPrefix s.data.toList [45]).toArray⟩ : ByteArray) = str (strip l)) := by show _ = _; rw [trim_strip, ← hl]; rfl
    have TP : Hid (∀ w : World, Calls Tryd.prog 48 #[.string s, .string ⟨#[45]⟩] w fun e w' => e = .returned (.string ⟨(Lib.trimPrefix s.data.toList [45]).toArray⟩) ∧ w' = w) := fun w => Tryd.strings_TrimPrefix s ⟨#[45]⟩ w
    rw [HTR.out] at TP
    have HSZ : Hid ((str (strip l)).size = (strip l).length) := str_size _
    have hsm : (strip l).length ≤ 1048576 := by have := strip_le l; rw [hl, ← Lib.size_eq] at this; rw [hl]; omega
    rw [← hl]
    clear hn hbd hE HTR
    by_cases hc : Lib.itoa n = l
    · have hsc : Hid (str (Lib.itoa n) = s) := by show _ = _; rw [hc, hl]; exact (str_of s).symm
      by_cases h18 : (strip l).length ≤ 18
      · have HR2 : Hid (readN l = (n, true)) := by show _ = _; rw [HR.out, if_pos ⟨hc, h18⟩]
        have HL := Lib.hid hl
        clear hc hl HR
        generalize readN l = r at *
        generalize hq : str (strip l) = q at *
        have hqs : q.size ≤ 18 := by rw [HSZ.out]; exact h18
        clear hq HSZ h18 hsm
        go_enter Tryd.func15, Tryd.ntmps15
        go_wp2_with fail
        refine HP.out.mono ?_
        rintro e w1 ⟨rfl, hw1⟩
        have hb1 := below_bytes hw1
        clear hw1 HP
        go_wp2_with fail
        refine (implDecimal_any n w1 B HI.out (HT.out.on (hb1.mono hB))).mono ?_
        rintro e w2 ⟨rfl, hb2⟩
        rw [hsc.out]
        have hb := hb1.trans (hb2.mono hb1.size)
        clear hb1 hb2
        go_wp2_with fail
        refine (TP.out _).mono ?_
        rintro e w3 ⟨rfl, rfl⟩
        go_wp2
        go_ret2
        exact ret_numB HR2.out hb
      · have HR2 : Hid (readN l = (0, false)) := by show _ = _; rw [HR.out, if_neg (fun e => h18 e.2)]
        have HL := Lib.hid hl
        clear hc hl HR
        generalize readN l = r at *
        generalize hq : str (strip l) = q at *
        have hqs : 18 < q.size := by rw [HSZ.out]; omega
        have hqs2 : q.size ≤ 1048576 := by rw [HSZ.out]; omega
        clear hq HSZ h18 hsm
        go_enter Tryd.func15, Tryd.ntmps15
        go_wp2_with fail
        refine HP.out.mono ?_
        rintro e w1 ⟨rfl, hw1⟩
        have hb1 := below_bytes hw1
        clear hw1 HP
        go_wp2_with fail
        refine (implDecimal_any n w1 B HI.out (HT.out.on (hb1.mono hB))).mono ?_
        rintro e w2 ⟨rfl, hb2⟩
        rw [hsc.out]
        have hb := hb1.trans (hb2.mono hb1.size)
        clear hb1 hb2
        go_wp2_with fail
        refine (TP.out _).mono ?_
        rintro e w3 ⟨rfl, rfl⟩
        go_wp2
        go_ret2
        exact ret_numB HR2.out hb
    · have HR2 : Hid (readN l = (0, false)) := by show _ = _; rw [HR.out, if_neg (fun e => hc e.1)]
      have hne : ((str (Lib.itoa n)).toList == s.toList) = false := by
        rw [beq_eq_false_iff_ne, toList_str, Lib.toList_data, ← hl]
        exact hc
      clear hc hl HR hsm
      generalize readN l = r at *
      obtain ⟨q, hq⟩ : ∃ q, q = str (Lib.itoa n) := ⟨_, rfl⟩
      rw [← hq] at hne
      have HQ := Lib.hid hq
      clear hq
      go_enter Tryd.func15, Tryd.ntmps15
      go_wp2_with fail
      refine HP.out.mono ?_
      rintro e w1 ⟨rfl, hw1⟩
      have hb1 := below_bytes hw1
      clear hw1 HP
      go_wp2_with fail
      refine (implDecimal_any n w1 B HI.out (HT.out.on (hb1.mono hB))).mono ?_
      rintro e w2 ⟨rfl, hb2⟩
      rw [← HQ.out]
      have hb := hb1.trans (hb2.mono hb1.size)
      clear hb1 hb2
      go_wp2
      go_ret2
      exact ret_numB HR2.out hb
  · have HR : Hid (readN l = (0, false)) := read_fail (fun n e => hok ⟨n, e⟩)
    have HP := Lib.hid (Tryd.parse_fail s (by omega) (fun n e => hok ⟨n, by rw [hl]; exact e⟩) w hE.es hE.er)
    rw [← hl]
    generalize readN l = r at *
    clear hok hl hE
    go_enter Tryd.func15, Tryd.ntmps15
    go_wp2_with fail
    refine HP.out.mono ?_
    rintro e w1 ⟨n, N, rfl, hb⟩
    go_wp2
    go_ret2
    exact ret_numB HR.out hb

end Go.Proofs.YtplioelpmfeabaaDoor
