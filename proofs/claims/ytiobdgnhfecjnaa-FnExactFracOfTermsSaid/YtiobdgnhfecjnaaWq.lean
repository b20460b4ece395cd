/- The value of terms: the reference's walk. -/
import Derived.Test.YtiobdgnhfecjnaaWo
namespace Go.Proofs.Ytiobdgnhfecjnaa
open Go.RowKit
set_option linter.unusedVariables false

set_option maxHeartbeats 4000000 in
theorem specFt_any (A : Option Addr) (c : Nat) (xs : List Int) (w : World) (h1 : Sl w w.heap.size A xs) (hc : xs.length ≤ c) (hl : xs.length ≤ 1099511627776) (hc' : c ≤ maxLen) :
    Calls Try.prog 31 #[.slice A xs.length c] w (FtIs xs w) := by
  unfold maxLen at hc'
  have HS := Lib.hid h1
  clear h1
  by_cases g1 : 1 ≤ xs.length ∧ xs.length ≤ 40
  · obtain ⟨g1, g2⟩ := g1
    have G1 := Lib.hid (inB_mk (lo := 1) (hi := 40) (n := (xs.length : Int)) (by omega) (by omega))
    obtain ⟨b, o, rfl, hb, hcell⟩ := HS.out (by omega)
    obtain ⟨f, hf⟩ : ∃ f : Nat → Int, ∀ k, xs.getD k 0 = f k := ⟨_, fun _ => rfl⟩
    have hcell' : ∀ k, k < xs.length → (w.alloc (.cells #[.int .i64 0, .int .i64 0] 25)).cell? ⟨b, o + k, none⟩ = some (.int .i64 (f k)) := fun k hk => (World.cell?_alloc_lt w _ _ (by exact hb)).trans ((hcell k hk).trans (by rw [hf]))
    have HC := Lib.hid hcell'
    have HF := Lib.hid hf
    clear hcell hcell' HS hf
    generalize hn : xs.length = n at *
    have HN := Lib.hid hn
    clear hn
    have c0 : (w.alloc (.cells #[.int .i64 0, .int .i64 0] 25)).cell? ⟨b, o, none⟩ = some (.int .i64 (f 0)) := HC.out 0 (by omega)
    cases g3 : inB (-1000000000) 1000000000 (f 0)
    · have G3 := Lib.hid g3
      have NO : ¬ FtOk xs := fun h => by have := h.1.2.2; rw [HF.out] at this; rw [inB_false] at g3; omega
      have HNO := Lib.hid NO
      clear g3 NO
      go_enter Try.func31, Try.ntmps31
      go_wp2_with (first | (go_at_call_of 45 (Value.int IntKind.i64 (n : Int)); refine (l00In_is _ _ _ _ _ G1.out).mono ?_; rintro e w' ⟨rfl, rfl⟩) | (go_at_call 45; refine (l00In_is _ _ _ _ _ G3.out).mono ?_; rintro e w' ⟨rfl, rfl⟩) | go_in)
      refine bodyPost_ret (v := .tuple #[.agg #[.int .i64 0, .int .i64 0], .int .i64 1]) (by simp [results, Try.results31, go_sem]) rfl ⟨0, 0, 1, rfl, FtRes.no HNO.out, by (repeat (first | exact Below.refl _ _ | assumption | refine Below.setCell ?_ (by (try simp) <;> omega) _ | refine Below.alloc ?_ (by (try simp) <;> omega) _ | refine below_drewN_ ?_ | refine Below.drew ?_))⟩
    obtain ⟨x1, x2⟩ := inB_true.1 g3
    have G3 := Lib.hid g3
    clear g3
    have HH : Hid (FtHead xs) := ⟨by rw [HN.out]; exact g1, by rw [HN.out]; exact g2, by rw [HF.out]; exact x1, by rw [HF.out]; exact x2⟩
    go_enter Try.func31, Try.ntmps31
    go_wp2_with (first | (go_at_call_of 45 (Value.int IntKind.i64 (n : Int)); refine (l00In_is _ _ _ _ _ G1.out).mono ?_; rintro e w' ⟨rfl, rfl⟩) | (go_at_call 45; refine (l00In_is _ _ _ _ _ G3.out).mono ?_; rintro e w' ⟨rfl, rfl⟩) | go_in)
    go_loop [4] (fun i => ∃ k : Nat, 1 ≤ k ∧ k ≤ n ∧ i = .int .i64 k ∧ ∀ j, 1 ≤ j → j < k → 1 ≤ f j ∧ f j ≤ 1000000000) (fun i => n - (intOf i).toNat)
    case atStart => exact ⟨1, by omega, by omega, rfl, fun j h1 hj => absurd hj (by omega)⟩
    case round =>
    obtain ⟨k, hk1, hk, rfl, hall⟩ := hrel
    have HA := Lib.hid hall
    clear hall
    by_cases hlt : k < n
    · have e1 := HC.out k (by omega)
      cases g4 : inB 1 1000000000 (f k)
      · have G4 := Lib.hid g4
        have NO : ¬ FtOk xs := fun h => by have := h.2 k (by omega) (by rw [HN.out]; omega); rw [HF.out] at this; rw [inB_false] at g4; omega
        have HNO := Lib.hid NO
        clear g4 NO
        go_wp2_with (go_at_call 45; refine (l00In_is _ _ _ _ _ G4.out).mono ?_; rintro e w' ⟨rfl, rfl⟩)
        refine bodyPost_ret (v := .tuple #[.agg #[.int .i64 0, .int .i64 0], .int .i64 1]) (by simp [results, Try.results31, go_sem]) rfl ⟨0, 0, 1, rfl, FtRes.no HNO.out, by (repeat (first | exact Below.refl _ _ | assumption | refine Below.setCell ?_ (by (try simp) <;> omega) _ | refine Below.alloc ?_ (by (try simp) <;> omega) _ | refine below_drewN_ ?_ | refine Below.drew ?_))⟩
      · have G4 := Lib.hid g4
        have hf4 := inB_true.1 g4
        have HF4 := Lib.hid hf4
        clear g4 hf4
        go_wp2_with (go_at_call 45; refine (l00In_is _ _ _ _ _ G4.out).mono ?_; rintro e w' ⟨rfl, rfl⟩)
        go_round
        case rel => exact ⟨k + 1, by omega, by omega, by go_num, fun j h1 hj => by
          rcases Nat.lt_or_ge j k with h' | h'
          · exact HA.out j h1 h'
          · obtain rfl : j = k := by omega
            exact HF4.out⟩
        case measure => simp [intOf]; omega
    have HOK : Hid (FtOk xs) := ⟨HH.out, fun i h1 h2 => by
      have := HA.out i h1 (by rw [HN.out] at h2; omega)
      rw [HF.out]; exact this⟩
    clear HA
    have hge : n ≤ k := by omega
    clear hlt
    have elast := HC.out (n - 1) (by omega)
    have flast := ft_any HOK.out (n - 1) (by rw [HN.out]; omega)
    rw [HF.out] at flast
    obtain ⟨fl1, fl2⟩ := flast
    have hone : f (n - 1) = (ftc xs 1).1 := by
      show _ = xs.getD (xs.length - 1 - 0) 0 * 1 + 0
      rw [HN.out, HF.out]; simp
    have HONE := Lib.hid hone
    clear hone
    go_wp2
    go_loop [5, 6, 7, 8] (fun s t i _ => ∃ j : Nat, 1 ≤ j ∧ j ≤ n ∧ i = .int .i64 ((n : Int) - 1 - j) ∧ s = .int .i64 (ftc xs j).1 ∧ t = .int .i64 (ftc xs j).2 ∧ Small xs (j - 1) ∧
        -2000000000000000 ≤ (ftc xs j).1 ∧ (ftc xs j).1 ≤ 2000000000000000 ∧ 0 ≤ (ftc xs j).2 ∧ (ftc xs j).2 ≤ 1000000) (fun _ _ i _ => (intOf i + 1).toNat)
    case atStart => exact ⟨1, by omega, by omega, by go_num, ret_num HONE.out, rfl, Small.start xs, by rw [← HONE.out]; omega, by rw [← HONE.out]; omega, by simp [ftc], by simp [ftc]⟩
    case round =>
      obtain ⟨j, hj1, hj, rfl, rfl, rfl, hsm, n1, n2, n3, n4⟩ := hrel
      have HSM := Lib.hid hsm
      clear hsm
      by_cases hlt : j + 1 ≤ n
      · by_cases hbig : (ftc xs j).1 ≤ 1000000
        · have hsj : Small xs j := by
            have := HSM.out.step (by rw [show j - 1 + 1 = j by omega]; exact hbig)
            rwa [show j - 1 + 1 = j by omega] at this
          obtain ⟨m1, m2, m3, m4⟩ := ftc_in HOK.out j (by rw [HN.out]; exact hlt) hsj
          have HSJ := Lib.hid hsj
          clear hsj
          have ej := HC.out (n - 1 - j) (by omega)
          have fb := ft_any HOK.out (n - 1 - j) (by rw [HN.out]; omega)
          rw [HF.out] at fb
          obtain ⟨fb1, fb2⟩ := fb
          obtain ⟨pr1, pr2⟩ := ft_prod fb1 fb2 m1 m2
          have hstep : f (n - 1 - j) * (ftc xs j).1 + (ftc xs j).2 = (ftc xs (j + 1)).1 := by show _ = xs.getD (xs.length - 1 - j) 0 * (ftc xs j).1 + (ftc xs j).2; rw [HN.out, HF.out]
          have HST := Lib.hid hstep
          clear hstep
          go_wp2
          go_round
          case rel => exact ⟨j + 1, by omega, by omega, by go_num, ret_num HST.out, rfl, HSJ.out, by rw [← HST.out]; omega, by rw [← HST.out]; omega, m1, m2⟩
          case measure => simp [intOf]; omega
        · have hbig' : 1000000 < (ftc xs j).1 := by omega
          have HB : Hid (FtBig xs) := ⟨j, by omega, by rw [HN.out]; omega, hbig'⟩
          clear hbig
          go_wp2
          refine bodyPost_ret (v := .tuple #[.agg #[.int .i64 0, .int .i64 0], .int .i64 2]) (by simp [results, Try.results31, go_sem]) rfl ⟨0, 0, 2, rfl, FtRes.big HOK.out HB.out, by (repeat (first | exact Below.refl _ _ | assumption | refine Below.setCell ?_ (by (try simp) <;> omega) _ | refine Below.alloc ?_ (by (try simp) <;> omega) _ | refine below_drewN_ ?_ | refine Below.drew ?_))⟩
      · have hjn : j = xs.length := by rw [HN.out]; omega
        have HJ := Lib.hid hjn
        clear hjn
        go_wp2_with fail
        refine (specMake_any _ _ _ ⟨by omega, by omega⟩ ⟨by omega, by omega⟩).mono ?_
        rw [HJ.out]
        rintro e w2 ⟨rfl, hb2⟩
        obtain ⟨y1, y2⟩ := bcell hb2
        have hz2 := hb2.size
        simp at hz2
        have k0 : w2.cell? ⟨w.heap.size, 0, none⟩ = some (.int .i64 0) := (y1 _ _ (by simp)).trans (by go_simp)
        have k1 : w2.cell? ⟨w.heap.size, 1, none⟩ = some (.int .i64 0) := (y1 _ _ (by simp)).trans (by go_simp)
        have l0 : w2.frozen? ⟨w.heap.size, 0, none⟩ = false := (y2 _ _ (by simp)).trans (by go_simp)
        have l1 : w2.frozen? ⟨w.heap.size, 1, none⟩ = false := (y2 _ _ (by simp)).trans (by go_simp)
        clear y1 y2
        have hbb := nxt (a := w) (B := w.heap.size) (by (repeat (first | exact Below.refl _ _ | assumption | refine Below.setCell ?_ (by (try simp) <;> omega) _ | refine Below.alloc ?_ (by (try simp) <;> omega) _ | refine below_drewN_ ?_ | refine Below.drew ?_))) hb2 (by simp)
        go_wp2
        refine bodyPost_ret (v := .tuple #[.agg #[.int .i64 (mkN (ftc xs xs.length).1 (ftc xs xs.length).2), .int .i64 (mkD (ftc xs xs.length).1 (ftc xs xs.length).2)], .int .i64 (mkC (ftc xs xs.length).1 (ftc xs xs.length).2)]) (by simp [results, Try.results31, go_sem, k0, k1]) rfl ⟨_, _, _, rfl, FtRes.yes HOK.out (Small.notBig (by rw [← HJ.out]; exact HSM.out)), ?_⟩
        (repeat (first | exact Below.refl _ _ | assumption | refine Below.setCell ?_ (by (try simp) <;> omega) _ | refine Below.alloc ?_ (by (try simp) <;> omega) _ | refine below_drewN_ ?_ | refine Below.drew ?_))
  · have NO : ¬ FtOk xs := fun h => g1 ⟨h.1.1, h.1.2.1⟩
    have HNO := Lib.hid NO
    have G1 : inB 1 40 (xs.length : Int) = false := inB_false.2 (by omega)
    have HG1 := Lib.hid G1
    clear G1 NO g1
    generalize xs.length = n at *
    go_enter Try.func31, Try.ntmps31
    go_wp2_with (first | (go_at_call 45; refine (l00In_is _ _ _ _ _ HG1.out).mono ?_; rintro e w' ⟨rfl, rfl⟩) | go_in)
    refine bodyPost_ret (v := .tuple #[.agg #[.int .i64 0, .int .i64 0], .int .i64 1]) (by simp [results, Try.results31, go_sem]) rfl ⟨0, 0, 1, rfl, FtRes.no HNO.out, by (repeat (first | exact Below.refl _ _ | assumption | refine Below.setCell ?_ (by (try simp) <;> omega) _ | refine Below.alloc ?_ (by (try simp) <;> omega) _ | refine below_drewN_ ?_ | refine Below.drew ?_))⟩

theorem fresh_cap {w : World} {lo hi : Nat} {A : Option Addr} {c : Nat} {xs : List Int} (h : Own w lo hi A c xs) : xs.length ≤ c ∧ c ≤ maxLen := by
  rcases h.1.2 with ⟨h0, h1⟩ | ⟨g, cap, cur, hv, _, _, hn, hm, _⟩
  · injection h0 with _ _ h2
    subst h2
    exact ⟨by omega, by unfold maxLen; omega⟩
  · injection hv with _ _ h2
    subst h2
    exact ⟨hn, hm⟩
set_option maxHeartbeats 2000000 in
theorem walk_FnExactFracOfTerms (A : Option Addr) (c : Nat) (xs : List Int) (w : World) (h : SlIn w w.heap.size A c xs) : Calls Try.prog 10 #[.slice A xs.length c] w fun e w' => e = .returned (.bool true) ∧ Below w.heap.size w w' := by
  obtain ⟨hs, hi64, hcap⟩ := h
  have HS := Lib.hid hs
  clear hs hi64
  by_cases hl : 1048576 < xs.length
  · generalize xs.length = n at *
    go_enter Try.func10, Try.ntmps10
    go_wp2
    go_ret
    exact ⟨rfl, Below.refl _ _⟩
  go_enter Try.func10, Try.ntmps10
  go_wp2_with fail
  refine (toInts_any _ _ _ _ _ HS.out (Nat.le_refl _) (by omega)).mono ?_
  rintro e w1 ⟨A1, c1, rfl, O1, hb1⟩
  obtain ⟨q1, q2⟩ := fresh_cap O1
  have hz1 := hb1.size
  go_wp2_with fail
  refine (specFt_any _ _ _ _ O1.sl q1 (by omega) q2).mono ?_
  rintro e w2 ⟨n, d, code, rfl, HR, hb2⟩
  have hr := Lib.hid HR
  clear HR
  have B2 := nxt hb1 hb2 hz1
  have hz2 := hb2.size
  clear O1 hb1 hb2
  have S2 := HS.out.below B2 (Nat.le_refl _)
  have B2' := Below.alloc B2 (by omega) (.cells #[.int .i64 n, .int .i64 d] 25)
  go_wp2_with fail
  refine (toInts_any _ _ _ _ w.heap.size (HS.out.below B2' (Nat.le_refl _)) (by simp; omega) (by omega)).mono ?_
  rintro e w3 ⟨A3, c3, rfl, O3, hb3⟩
  obtain ⟨q3, q4⟩ := fresh_cap O3
  have hz3 := hb3.size
  simp at hz3
  have B3 := nxt B2' hb3 (by simp; omega)
  have e0 : w3.cell? ⟨w2.heap.size, 0, none⟩ = some (.int .i64 n) := ((bcell hb3).1 _ _ (by simp)).trans (by go_simp)
  have e1 : w3.cell? ⟨w2.heap.size, 1, none⟩ = some (.int .i64 d) := ((bcell hb3).1 _ _ (by simp)).trans (by go_simp)
  clear hb3
  go_wp2_with fail
  refine (implFt_any _ _ _ _ O3.sl q3 (by omega) q4).mono ?_
  rintro e w4 ⟨n', d', code', rfl, HR', hb4⟩
  obtain ⟨rfl, rfl, rfl⟩ := hr.out.unique HR'
  have B4 := nxt B3 hb4 (by omega)
  have hz4 := hb4.size
  have f0 := ((bcell hb4).1 _ 0 (by omega)).trans e0
  have f1 := ((bcell hb4).1 _ 1 (by omega)).trans e1
  have O4 := O3.below hb4 (Nat.le_refl _)
  have f0' : (w4.alloc (.cells #[.int .i64 n, .int .i64 d] 25)).cell? ⟨w2.heap.size, 0, none⟩ = some (.int .i64 n) := (World.cell?_alloc_lt w4 _ _ (by show w2.heap.size < _; omega)).trans f0
  have f1' : (w4.alloc (.cells #[.int .i64 n, .int .i64 d] 25)).cell? ⟨w2.heap.size, 1, none⟩ = some (.int .i64 d) := (World.cell?_alloc_lt w4 _ _ (by show w2.heap.size < _; omega)).trans f1
  have B4' := Below.alloc B4 (by omega) (.cells #[.int .i64 n, .int .i64 d] 25)
  clear hb4 e0 e1 O3 HR' f0 f1
  go_wp2_with fail
  refine (eqFrac_any _ _ _).mono ?_
  rintro e w5 ⟨rfl, hb5⟩
  have B5 := nxt B4' hb5 (by simp; omega)
  have hz5 := hb5.size
  simp at hz5
  have O5 := (O4.alloc (.cells #[.int .i64 n, .int .i64 d] 25)).below hb5 (by simp; omega)
  clear hb5 O4
  go_wp2_with fail
  refine (toInts_any _ _ _ _ w.heap.size (HS.out.below B5 (Nat.le_refl _)) (by omega) (by omega)).mono ?_
  rintro e w6 ⟨A6, c6, rfl, O6, hb6⟩
  have B6 := nxt B5 hb6 (by omega)
  have O5' := O5.below hb6 (by omega)
  clear hb6 O5
  go_wp2_with fail
  refine (eqSame_any _ _ _ _ _ _ _ _ O5'.sl O6.sl (by omega)).mono ?_
  rintro e w7 ⟨rfl, m7, rfl⟩
  go_wp2
  go_ret
  exact ⟨rfl, below_drewN_ B6⟩

end Go.Proofs.Ytiobdgnhfecjnaa
