/- Walks: a signal read from a text, the reference's side. -/
import Derived.Test.YtplioelpmfeabaaDoorQm
namespace Go.Proofs.YtplioelpmfeabaaDoor
open Go.RowKit
set_option linter.unusedVariables false
set_option linter.unusedSimpArgs false

theorem smpN_split {p : List UInt8} {m : Int} {b : Bool} (h : readN p = (m, b)) : smpN p = (b && inB (-2147483648) 2147483647 m) := by
  unfold smpN
  rw [h]

set_option maxRecDepth 100000 in
set_option maxHeartbeats 4000000 in
theorem specReadSignal_any (s : ByteArray) (w : World) (hs : s.size ≤ 1048576) : Calls Tryd.prog 31 #[.string s] w (NumsIs (sigRead s.data.toList) w) := by
  obtain ⟨l, hl⟩ : ∃ l, l = s.data.toList := ⟨_, rfl⟩
  rw [← hl]
  by_cases h0 : l = []
  · have HR : Hid (sigRead l = ([], true)) := by show _ = _; rw [h0]; exact sigRead_empty
    have hem : s.toList.isEmpty = true := by rw [Lib.toList_data, ← hl, h0]; rfl
    clear h0 hl
    generalize sigRead l = r at *
    go_enter Tryd.func31, Tryd.ntmps31
    go_wp2
    go_ret2
    exact numsIs_mk HR.out rfl (own_lit0 w) (Nat.le_refl _) (Nat.le_refl _) (by (repeat (first | exact Below.refl _ _ | assumption | refine Below.setCell ?_ (by (try simp) <;> omega) _ | refine Below.alloc ?_ (by (try simp) <;> omega) _ | refine below_drewN_ ?_ | refine Below.drew ?_)))
  have hem : s.toList.isEmpty = false := by
    rw [Lib.toList_data, ← hl]
    cases l with
    | nil => exact absurd rfl h0
    | cons c r => rfl
  have HSp : Hid (∀ w', Calls Tryd.prog 49 #[.string s, .int .u8 32] w' (FreshG 9 (strV (pieces 32 l)) w')) := fun w' => by rw [hl]; exact l01Split_any s w' hs
  have hll : l.length ≤ 1048576 := by rw [hl, ← Lib.size_eq]; exact hs
  obtain ⟨ps, hps⟩ : ∃ ps, ps = pieces 32 l := ⟨_, rfl⟩
  have HLong : Hid (4000 < ps.length → sigRead l = ([], false)) := fun h => sigRead_long h0 (by rw [← hps]; exact h)
  have HBad : Hid (∀ k, k < ps.length → smpN (ps.getD k []) = false → sigRead l = ([], false)) := fun k hk hb => sigRead_bad h0 (by rw [← hps]; exact getD_mem hk) hb
  have HAllR : Hid (ps.length ≤ 4000 → (∀ j, j < ps.length → smpN (ps.getD j []) = true) → sigRead l = (numsOf (ps.take ps.length), true)) := fun h4 hall => by
    rw [List.take_length, hps]
    refine sigRead_all (by rw [← hps]; exact h4) (fun p hp => ?_)
    rw [← hps] at hp
    obtain ⟨j, hj, rfl⟩ := List.getElem_of_mem hp
    have := hall j hj
    simpa [List.getD_eq_getElem?_getD, hj] using this
  have HPl : Hid (∀ k, k < ps.length → (str (ps.getD k [])).size ≤ 1048576) := fun k hk => by
    rw [str_size]
    have := pieces_le 32 l _ (by rw [← hps]; exact getD_mem hk)
    omega
  have HG : Hid (∀ k, k < ps.length → (strV ps).getD k undef = .string (str (ps.getD k []))) := fun k hk => strV_get ps k hk
  have HV : Hid ((strV ps).length = ps.length) := strV_length ps
  have HT : Hid (∀ k, k < ps.length → numsOf (ps.take (k + 1)) = numsOf (ps.take k) ++ [(readN (ps.getD k [])).1]) := fun k hk => numsOf_take hk
  have HTL : Hid (∀ k, k ≤ ps.length → (numsOf (ps.take k)).length = k) := fun k hk => by rw [numsOf_length, List.length_take]; omega
  have HT0 : Hid (numsOf (ps.take 0) = []) := by show _ = _; rfl
  have hpl : ps.length ≤ 1048577 := by rw [hps]; have := pieces_length 32 l; omega
  rw [← hps] at HSp
  obtain ⟨T, hT⟩ : ∃ T : Nat → List Int, T = fun k => numsOf (ps.take k) := ⟨_, rfl⟩
  obtain ⟨f, hf⟩ : ∃ f : Nat → List UInt8, f = fun k => ps.getD k [] := ⟨_, rfl⟩
  simp only [← congrFun hT _, ← congrFun hf _] at HPl HG HBad HAllR HT HTL HT0
  clear hT hf h0 hps hl hll
  generalize sigRead l = r at *
  generalize strV ps = vs at *
  generalize ps.length = n at *
  by_cases h4 : 4000 < n
  · have HR := Lib.hid (HLong.out h4)
    go_enter Tryd.func31, Tryd.ntmps31
    go_wp2_with fail
    have hb0 : Below w.heap.size w (w.alloc (.cells #[] 2)) := by (repeat (first | exact Below.refl _ _ | assumption | refine Below.setCell ?_ (by (try simp) <;> omega) _ | refine Below.alloc ?_ (by (try simp) <;> omega) _ | refine below_drewN_ ?_ | refine Below.drew ?_))
    generalize w.alloc (.cells #[] 2) = w0 at *
    refine (HSp.out w0).mono ?_
    rintro e w1 ⟨A1, c1, rfl, -, hb1⟩
    rw [HV.out]
    have hb := hb0.trans (hb1.mono hb0.size)
    clear hb0 hb1
    go_wp2
    go_ret2
    exact numsIs_nil HR.out hb
  have h4' : n ≤ 4000 := by omega
  clear h4
  go_enter Tryd.func31, Tryd.ntmps31
  go_wp2_with fail
  have hO1 : Own (w.alloc (.cells #[] 2)) w.heap.size (w.alloc (.cells #[] 2)).heap.size (some ⟨w.heap.size, 0, none⟩) 0 [] := own_lit0 w
  have hb0 : Below w.heap.size w (w.alloc (.cells #[] 2)) := by (repeat (first | exact Below.refl _ _ | assumption | refine Below.setCell ?_ (by (try simp) <;> omega) _ | refine Below.alloc ?_ (by (try simp) <;> omega) _ | refine below_drewN_ ?_ | refine Below.drew ?_))
  generalize w.alloc (.cells #[] 2) = w0 at *
  refine (HSp.out w0).mono ?_
  rintro e w1 ⟨A0, c0, rfl, hO0, hb1⟩
  rw [HV.out]
  have hO2 := hO1.below hb1 (Nat.le_refl _)
  have hb2 := hb0.trans (hb1.mono hb0.size)
  have HO0 := Lib.hid hO0
  have HZ0 := Lib.hid hb0.size
  have HZ1 := Lib.hid hb1.size
  have HO2 := Lib.hid hO2
  clear hO0 hO1 hO2
  go_wp2
  go_loopw [4, 6] (fun v i wr => ∃ (k : Nat) (A : Option Addr) (c : Nat), k ≤ n ∧ i = .int .i64 k ∧ v = .slice A k c ∧ Hid (∀ j, j < k → smpN (f j) = true) ∧
    ((k = 0 ∧ A = some ⟨w.heap.size, 0, none⟩ ∧ c = 0 ∧ Own wr w.heap.size w0.heap.size A c []) ∨ Own wr w1.heap.size wr.heap.size A c (T k)) ∧ Below w1.heap.size w1 wr) (fun _ i _ => n - (intOf i).toNat)
  case atStart => exact ⟨0, _, _, by omega, rfl, rfl, Lib.hid (fun j hj => absurd hj (by omega)), .inl ⟨rfl, rfl, rfl, HO2.out⟩, Below.refl _ _⟩
  case round =>
    obtain ⟨k, A, c, hk, rfl, rfl, HAll, hwon, hbr⟩ := hrel
    have HWon := Lib.hid hwon
    clear hwon
    have hsz := hbr.size
    by_cases hlt : k < n
    · obtain ⟨b, o, rfl, hb, hcell⟩ := HO0.out.sl (by rw [HV.out]; omega)
      have e1 : wr.cell? ⟨b, o + k, none⟩ = some (.string (str (f k))) := by
        rw [← HG.out k hlt, ← hcell k (by rw [HV.out]; exact hlt)]
        exact hbr.cell (p := ⟨b, o + k, none⟩) hb
      clear hcell
      have HR : Hid (Calls Tryd.prog 46 #[.string (str (f k))] wr (NumB (readN (f k)) wr)) := l01Number_any (str (f k)) wr (HPl.out k hlt)
      rcases hr : readN (f k) with ⟨m, ok⟩
      have hsm := smpN_split hr
      have HN : Hid (T (k + 1) = T k ++ [m]) := by show _ = _; rw [HT.out k hlt, hr]
      rw [hr] at HR
      clear hr
      cases ok
      · have HNil := Lib.hid (HBad.out k hlt (by rw [hsm]; rfl))
        clear hsm
        generalize str (f k) = q at *
        go_wp2_with fail
        refine HR.out.mono ?_
        rintro e w2 ⟨rfl, hb2'⟩
        have hbz := hb2.trans ((hbr.trans (hb2'.mono hsz)).mono (by have := HZ0.out; have := HZ1.out; omega))
        clear hb2'
        go_wp2
        go_ret2
        exact numsIs_nil HNil.out hbz
      · have HSm : Hid (∀ w', Calls Tryd.prog 61 #[.int .i64 m] w' fun e w'' => e = .returned (.bool (inB (-2147483648) 2147483647 m)) ∧ w' = w'') := fun w' => l01Sample_any m w'
        cases hin : inB (-2147483648) 2147483647 m
        · have HNil := Lib.hid (HBad.out k hlt (by rw [hsm, hin]; rfl))
          rw [hin] at HSm
          clear hsm hin
          generalize str (f k) = q at *
          go_wp2_with fail
          refine HR.out.mono ?_
          rintro e w2 ⟨rfl, hb2'⟩
          have hbz := hb2.trans ((hbr.trans (hb2'.mono hsz)).mono (by have := HZ0.out; have := HZ1.out; omega))
          clear hb2'
          go_wp2_with fail
          refine (HSm.out _).mono ?_
          rintro e w3 ⟨rfl, rfl⟩
          go_wp2
          go_ret2
          exact numsIs_nil HNil.out hbz
        · have HAll2 : Hid (∀ j, j < k + 1 → smpN (f j) = true) := fun j hj => by
            rcases Nat.lt_or_ge j k with h' | h'
            · exact HAll.out j h'
            · obtain rfl : j = k := by omega
              rw [hsm, hin]; rfl
          rw [hin] at HSm
          clear hsm hin
          generalize str (f k) = q at *
          go_wp2_with fail
          refine HR.out.mono ?_
          rintro e w2 ⟨rfl, hb2'⟩
          have hbr2 := hbr.trans (hb2'.mono hsz)
          have hz2 := hb2'.size
          have HB2 := Lib.hid hb2'
          clear hb2'
          go_wp2_with fail
          refine (HSm.out _).mono ?_
          rintro e w3 ⟨rfl, rfl⟩
          rcases HWon.out with ⟨rfl, rfl, rfl, hown⟩ | hown
          · go_wp2_with (at_builtin; refine wl_append_new rfl (.tmp 39) (.tmp 41) 40 2 rfl Tryd.underlying40 (.int .i64 0) 8 infoI rfl (by omega) _ _ rfl rfl ?_)
            intro A' c' w' hown' hb'
            have hown2 : Own w' w1.heap.size w'.heap.size A' c' (T (0 + 1)) := by rw [HN.out, HT0.out]; exact (OwnG.toOwn (xs := [m]) hown').mono (by omega) (Nat.le_refl _)
            have hbr' := hbr2.trans (hb'.mono (by omega))
            clear hown' hb'
            go_wp2
            go_roundw
            case rel => exact ⟨1, A', c', by omega, by go_num, rfl, HAll2, .inr hown2, hbr'⟩
            case measure => simp [intOf]; omega
          · have hown1 := hown.same HB2.out
            go_wp2_with (at_builtin; refine wl_app1 rfl (.tmp 39) (.tmp 41) rfl A c (T k) m k rfl hown1 (HTL.out k hk).symm rfl (by omega) (by omega) ?_)
            intro A' c' w' hown' hb'
            rw [← HN.out] at hown'
            have hbr' := hbr2.trans hb'
            clear hb'
            go_wp2
            go_roundw
            case rel => exact ⟨k + 1, A', c', by omega, by go_num, rfl, HAll2, .inr hown', hbr'⟩
            case measure => simp [intOf]; omega
    · have hkn : k = n := by omega
      subst hkn
      have HR := Lib.hid (HAllR.out h4' HAll.out)
      go_wp2
      go_ret2
      have hbz := hb2.trans (hbr.mono (by have := HZ0.out; have := HZ1.out; omega))
      rcases HWon.out with ⟨rfl, rfl, rfl, hown⟩ | hown
      · exact numsIs_mk HR.out (HTL.out 0 hk).symm (by rw [HT0.out]; exact hown) (Nat.le_refl _) (by have := HZ1.out; omega) hbz
      · exact numsIs_mk HR.out (HTL.out k hk).symm hown (by have := HZ0.out; have := HZ1.out; omega) (Nat.le_refl _) hbz

end Go.Proofs.YtplioelpmfeabaaDoor
