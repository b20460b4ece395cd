/- The value of terms: walks and the law. -/
import Derived.Test.YtiobdgnhfecjnaaWc
import Derived.Test.YtiobdgnhfecjnaaWm
import Derived.Test.YtiobdgnhfecjnaaSl
import Derived.Test.YtiobdgnhfecjnaaPf
namespace Go.Proofs.Ytiobdgnhfecjnaa
open Go.RowKit
set_option linter.unusedVariables false

def FtIs (xs : List Int) (w : World) (e : Ending) (w' : World) : Prop :=
  ∃ n d c : Int, e = .returned (.tuple #[.agg #[.int .i64 n, .int .i64 d], .int .i64 c]) ∧ FtRes xs n d c ∧ Below w.heap.size w w'

theorem ret_num {a b : Int} (h : a = b) : Value.int .i64 a = .int .i64 b := by rw [h]

set_option maxHeartbeats 4000000 in
theorem implFt_any (A : Option Addr) (c : Nat) (xs : List Int) (w : World) (h1 : Sl w w.heap.size A xs) (hc : xs.length ≤ c) (hl : xs.length ≤ 1099511627776) (hc' : c ≤ maxLen) :
    Calls Try.prog 33 #[.slice A xs.length c] w (FtIs xs w) := by
  unfold maxLen at hc'
  have HS := Lib.hid h1
  clear h1
  by_cases g1 : 1 ≤ xs.length ∧ xs.length ≤ 40
  · obtain ⟨g1, g2⟩ := g1
    have G1 := Lib.hid (inB_mk (lo := 1) (hi := 40) (n := (xs.length : Int)) (by omega) (by omega))
    obtain ⟨b, o, rfl, hb, hcell⟩ := HS.out (by omega)
    obtain ⟨f, hf⟩ : ∃ f : Nat → Int, ∀ k, xs.getD k 0 = f k := ⟨_, fun _ => rfl⟩
    have hcell' : ∀ k, k < xs.length → (w.alloc (.cells #[.int .i64 0, .int .i64 0] 25)).cell? ⟨b, o + k, none⟩ = some (.int .i64 (f k)) := fun k hk => (World.cell?_alloc_lt w _ _ (by exact hb)).trans ((hcell k hk).trans (by rw [hf]))
    have HC := Lib.hid hcell'
    have HF := Lib.hid hf
    clear hcell hcell' HS hf
    generalize hn : xs.length = n at *
    have HN := Lib.hid hn
    clear hn
    have c0 : (w.alloc (.cells #[.int .i64 0, .int .i64 0] 25)).cell? ⟨b, o, none⟩ = some (.int .i64 (f 0)) := HC.out 0 (by omega)
    cases g3 : inB (-1000000000) 1000000000 (f 0)
    · have G3 := Lib.hid g3
      have NO : ¬ FtOk xs := fun h => by have := h.1.2.2; rw [HF.out] at this; rw [inB_false] at g3; omega
      have HNO := Lib.hid NO
      clear g3 NO
      go_enter Try.func33, Try.ntmps33
      go_wp2_with (first | (go_at_call_of 46 (Value.int IntKind.i64 (n : Int)); refine (within_is _ _ _ _ _ G1.out).mono ?_; rintro e w' ⟨rfl, rfl⟩) | (go_at_call 46; refine (within_is _ _ _ _ _ G3.out).mono ?_; rintro e w' ⟨rfl, rfl⟩) | go_in)
      refine bodyPost_ret (v := .tuple #[.agg #[.int .i64 0, .int .i64 0], .int .i64 1]) (by simp [results, Try.results33, go_sem]) rfl ⟨0, 0, 1, rfl, FtRes.no HNO.out, by (repeat (first | exact Below.refl _ _ | assumption | refine Below.setCell ?_ (by (try simp) <;> omega) _ | refine Below.alloc ?_ (by (try simp) <;> omega) _ | refine below_drewN_ ?_ | refine Below.drew ?_))⟩
    obtain ⟨x1, x2⟩ := inB_true.1 g3
    have G3 := Lib.hid g3
    clear g3
    have HH : Hid (FtHead xs) := ⟨by rw [HN.out]; exact g1, by rw [HN.out]; exact g2, by rw [HF.out]; exact x1, by rw [HF.out]; exact x2⟩
    rcases Nat.lt_or_ge 1 c with hcc | hcc
    · have hc1 : ¬ c = 1 := by omega
      go_enter Try.func33, Try.ntmps33
      go_wp2_with (first | (go_at_call_of 46 (Value.int IntKind.i64 (n : Int)); refine (within_is _ _ _ _ _ G1.out).mono ?_; rintro e w' ⟨rfl, rfl⟩) | (go_at_call 46; refine (within_is _ _ _ _ _ G3.out).mono ?_; rintro e w' ⟨rfl, rfl⟩) | go_in)
      go_loop [24, 5] (fun i _ => ∃ k : Nat, k + 1 ≤ n ∧ i = .int .i64 k ∧ ∀ j, j < k → 1 ≤ f (j + 1) ∧ f (j + 1) ≤ 1000000000) (fun i _ => n - (intOf i).toNat)
      case atStart => exact ⟨0, by omega, rfl, fun j hj => absurd hj (by omega)⟩
      case round =>
      obtain ⟨k, hk, rfl, hall⟩ := hrel
      have HA := Lib.hid hall
      clear hall
      by_cases hlt : k < n - 1
      · have e1 := HC.out (k + 1) (by omega)
        rw [show o + (k + 1) = o + 1 + k by omega] at e1
        cases g4 : inB 1 1000000000 (f (k + 1))
        · have G4 := Lib.hid g4
          have NO : ¬ FtOk xs := fun h => by have := h.2 (k + 1) (by omega) (by rw [HN.out]; omega); rw [HF.out] at this; rw [inB_false] at g4; omega
          have HNO := Lib.hid NO
          clear g4 NO
          go_wp2_with (go_at_call 46; refine (within_is _ _ _ _ _ G4.out).mono ?_; rintro e w' ⟨rfl, rfl⟩)
          refine bodyPost_ret (v := .tuple #[.agg #[.int .i64 0, .int .i64 0], .int .i64 1]) (by simp [results, Try.results33, go_sem]) rfl ⟨0, 0, 1, rfl, FtRes.no HNO.out, by (repeat (first | exact Below.refl _ _ | assumption | refine Below.setCell ?_ (by (try simp) <;> omega) _ | refine Below.alloc ?_ (by (try simp) <;> omega) _ | refine below_drewN_ ?_ | refine Below.drew ?_))⟩
        · have G4 := Lib.hid g4
          have hf4 := inB_true.1 g4
          have HF4 := Lib.hid hf4
          clear g4 hf4
          go_wp2_with (go_at_call 46; refine (within_is _ _ _ _ _ G4.out).mono ?_; rintro e w' ⟨rfl, rfl⟩)
          go_round
          case rel => exact ⟨k + 1, by omega, by go_num, fun j hj => by
            rcases Nat.lt_or_ge j k with h' | h'
            · exact HA.out j h'
            · obtain rfl : j = k := by omega
              exact HF4.out⟩
          case measure => simp [intOf]; omega
      have HOK : Hid (FtOk xs) := ⟨HH.out, fun i h1 h2 => by
        have := HA.out (i - 1) (by rw [HN.out] at h2; omega)
        rw [show i - 1 + 1 = i by omega] at this
        rw [HF.out]; exact this⟩
      clear HA
      have hge : n - 1 ≤ k := by omega
      clear hlt
      go_wp2
      go_loop [6, 7, 8] (fun s t i => ∃ j : Nat, j + 1 ≤ n ∧ i = .int .i64 ((n : Int) - 1 - j) ∧ s = .int .i64 (ftc xs j).1 ∧ t = .int .i64 (ftc xs j).2 ∧ Small xs j) (fun _ _ i => (intOf i).toNat)
      case atStart => exact ⟨0, by omega, by go_num, rfl, rfl, Small.start xs⟩
      case round =>
        obtain ⟨j, hj, rfl, rfl, rfl, hsm⟩ := hrel
        obtain ⟨n1, n2, n3, n4⟩ := ftc_in HOK.out j (by rw [HN.out]; exact hj) hsm
        have HSM := Lib.hid hsm
        clear hsm
        by_cases hlt : j + 1 < n
        · have ej := HC.out (n - 1 - j) (by omega)
          have fb := ft_any HOK.out (n - 1 - j) (by rw [HN.out]; omega)
          rw [HF.out] at fb
          obtain ⟨fb1, fb2⟩ := fb
          obtain ⟨pr1, pr2⟩ := ft_prod fb1 fb2 n1 n2
          have hstep : f (n - 1 - j) * (ftc xs j).1 + (ftc xs j).2 = (ftc xs (j + 1)).1 := by show _ = xs.getD (xs.length - 1 - j) 0 * (ftc xs j).1 + (ftc xs j).2; rw [HN.out, HF.out]
          have HST := Lib.hid hstep
          clear hstep
          by_cases hbig : f (n - 1 - j) * (ftc xs j).1 + (ftc xs j).2 ≤ 1000000
          · go_wp2
            go_round
            case rel => exact ⟨j + 1, by omega, by go_num, ret_num HST.out, rfl, HSM.out.step (by rw [← HST.out]; exact hbig)⟩
            case measure => simp [intOf]; omega
          · have hbig' : 1000000 < f (n - 1 - j) * (ftc xs j).1 + (ftc xs j).2 := by omega
            have HB : Hid (FtBig xs) := ⟨j + 1, by omega, by rw [HN.out]; omega, by rw [← HST.out]; exact hbig'⟩
            clear hbig
            go_wp2
            refine bodyPost_ret (v := .tuple #[.agg #[.int .i64 0, .int .i64 0], .int .i64 2]) (by simp [results, Try.results33, go_sem]) rfl ⟨0, 0, 2, rfl, FtRes.big HOK.out HB.out, by (repeat (first | exact Below.refl _ _ | assumption | refine Below.setCell ?_ (by (try simp) <;> omega) _ | refine Below.alloc ?_ (by (try simp) <;> omega) _ | refine below_drewN_ ?_ | refine Below.drew ?_))⟩
        · have hjn : j = n - 1 := by omega
          have HJ := Lib.hid hjn
          clear hjn
          obtain ⟨pr1, pr2⟩ := ft_prod x1 x2 n1 n2
          have hlast : f 0 * (ftc xs j).1 + (ftc xs j).2 = (ftc xs xs.length).1 ∧ (ftc xs j).1 = (ftc xs xs.length).2 := by
            have : xs.length = j + 1 := by rw [HN.out]; have := HJ.out; omega
            rw [this]
            refine ⟨?_, rfl⟩
            show _ = xs.getD (xs.length - 1 - j) 0 * (ftc xs j).1 + (ftc xs j).2
            rw [this, show j + 1 - 1 - j = 0 by omega, HF.out]
          have HL := Lib.hid hlast
          clear hlast
          go_wp2_with fail
          refine (implMake_any _ _ _ ⟨by omega, by omega⟩ ⟨by omega, by omega⟩).mono ?_
          rw [HL.out.1, HL.out.2]
          rintro e w2 ⟨rfl, hb2⟩
          obtain ⟨y1, y2⟩ := bcell hb2
          have hz2 := hb2.size
          simp at hz2
          have k0 : w2.cell? ⟨w.heap.size, 0, none⟩ = some (.int .i64 0) := (y1 _ _ (by simp)).trans (by go_simp)
          have k1 : w2.cell? ⟨w.heap.size, 1, none⟩ = some (.int .i64 0) := (y1 _ _ (by simp)).trans (by go_simp)
          have l0 : w2.frozen? ⟨w.heap.size, 0, none⟩ = false := (y2 _ _ (by simp)).trans (by go_simp)
          have l1 : w2.frozen? ⟨w.heap.size, 1, none⟩ = false := (y2 _ _ (by simp)).trans (by go_simp)
          clear y1 y2
          have hbb := nxt (a := w) (B := w.heap.size) (by (repeat (first | exact Below.refl _ _ | assumption | refine Below.setCell ?_ (by (try simp) <;> omega) _ | refine Below.alloc ?_ (by (try simp) <;> omega) _ | refine below_drewN_ ?_ | refine Below.drew ?_))) hb2 (by simp)
          go_wp2
          refine bodyPost_ret (v := .tuple #[.agg #[.int .i64 (mkN (ftc xs xs.length).1 (ftc xs xs.length).2), .int .i64 (mkD (ftc xs xs.length).1 (ftc xs xs.length).2)], .int .i64 (mkC (ftc xs xs.length).1 (ftc xs xs.length).2)]) (by simp [results, Try.results33, go_sem, k0, k1]) rfl ⟨_, _, _, rfl, FtRes.yes HOK.out (Small.notBig (by rw [HN.out, ← HJ.out]; exact HSM.out)), ?_⟩
          (repeat (first | exact Below.refl _ _ | assumption | refine Below.setCell ?_ (by (try simp) <;> omega) _ | refine Below.alloc ?_ (by (try simp) <;> omega) _ | refine below_drewN_ ?_ | refine Below.drew ?_))
    · obtain rfl : c = 1 := by omega
      obtain rfl : n = 1 := by omega
      have HOK : Hid (FtOk xs) := ⟨HH.out, fun i h1 h2 => by rw [HN.out] at h2; omega⟩
      have G1' := Lib.hid (inB_mk (lo := 1) (hi := 40) (n := 1) (by omega) (by omega))
      go_enter Try.func33, Try.ntmps33
      go_wp2_with (first | (go_at_call_of 46 (Value.int IntKind.i64 1); refine (within_is _ _ _ _ _ G1'.out).mono ?_; rintro e w' ⟨rfl, rfl⟩) | (go_at_call 46; refine (within_is _ _ _ _ _ G3.out).mono ?_; rintro e w' ⟨rfl, rfl⟩) | go_in)
      go_loop [24, 5] (fun i _ => i = .int .i64 0) (fun _ _ => 0)
      case atStart => rfl
      case round =>
      subst hrel
      go_wp2
      go_loop [6, 7, 8] (fun s t i => i = .int .i64 0 ∧ s = .int .i64 1 ∧ t = .int .i64 0) (fun _ _ _ => 0)
      case atStart => exact ⟨rfl, rfl, rfl⟩
      case round =>
      obtain ⟨rfl, rfl, rfl⟩ := hrel
      have hlast : f 0 = (ftc xs xs.length).1 ∧ (1 : Int) = (ftc xs xs.length).2 := by
        rw [HN.out]
        refine ⟨?_, rfl⟩
        show _ = xs.getD (xs.length - 1 - 0) 0 * 1 + 0
        rw [HN.out, HF.out]
        simp
      have HL := Lib.hid hlast
      clear hlast
      have HNB : Hid (¬ FtBig xs) := fun ⟨j, h1, h2, _⟩ => by rw [HN.out] at h2; omega
      go_wp2_with fail
      refine (implMake_any _ _ _ ⟨by omega, by omega⟩ ⟨by omega, by omega⟩).mono ?_
      rw [HL.out.1, HL.out.2]
      rintro e w2 ⟨rfl, hb2⟩
      obtain ⟨y1, y2⟩ := bcell hb2
      have hz2 := hb2.size
      simp at hz2
      have k0 : w2.cell? ⟨w.heap.size, 0, none⟩ = some (.int .i64 0) := (y1 _ _ (by simp)).trans (by go_simp)
      have k1 : w2.cell? ⟨w.heap.size, 1, none⟩ = some (.int .i64 0) := (y1 _ _ (by simp)).trans (by go_simp)
      have l0 : w2.frozen? ⟨w.heap.size, 0, none⟩ = false := (y2 _ _ (by simp)).trans (by go_simp)
      have l1 : w2.frozen? ⟨w.heap.size, 1, none⟩ = false := (y2 _ _ (by simp)).trans (by go_simp)
      clear y1 y2
      have hbb := nxt (a := w) (B := w.heap.size) (by (repeat (first | exact Below.refl _ _ | assumption | refine Below.setCell ?_ (by (try simp) <;> omega) _ | refine Below.alloc ?_ (by (try simp) <;> omega) _ | refine below_drewN_ ?_ | refine Below.drew ?_))) hb2 (by simp)
      go_wp2
      refine bodyPost_ret (v := .tuple #[.agg #[.int .i64 (mkN (ftc xs xs.length).1 (ftc xs xs.length).2), .int .i64 (mkD (ftc xs xs.length).1 (ftc xs xs.length).2)], .int .i64 (mkC (ftc xs xs.length).1 (ftc xs xs.length).2)]) (by simp [results, Try.results33, go_sem, k0, k1]) rfl ⟨_, _, _, rfl, FtRes.yes HOK.out HNB.out, ?_⟩
      (repeat (first | exact Below.refl _ _ | assumption | refine Below.setCell ?_ (by (try simp) <;> omega) _ | refine Below.alloc ?_ (by (try simp) <;> omega) _ | refine below_drewN_ ?_ | refine Below.drew ?_))
  · have NO : ¬ FtOk xs := fun h => g1 ⟨h.1.1, h.1.2.1⟩
    have HNO := Lib.hid NO
    have G1 : inB 1 40 (xs.length : Int) = false := inB_false.2 (by omega)
    have HG1 := Lib.hid G1
    clear G1 NO g1
    generalize xs.length = n at *
    go_enter Try.func33, Try.ntmps33
    go_wp2_with (first | (go_at_call 46; refine (within_is _ _ _ _ _ HG1.out).mono ?_; rintro e w' ⟨rfl, rfl⟩) | go_in)
    refine bodyPost_ret (v := .tuple #[.agg #[.int .i64 0, .int .i64 0], .int .i64 1]) (by simp [results, Try.results33, go_sem]) rfl ⟨0, 0, 1, rfl, FtRes.no HNO.out, by (repeat (first | exact Below.refl _ _ | assumption | refine Below.setCell ?_ (by (try simp) <;> omega) _ | refine Below.alloc ?_ (by (try simp) <;> omega) _ | refine below_drewN_ ?_ | refine Below.drew ?_))⟩

end Go.Proofs.Ytiobdgnhfecjnaa
