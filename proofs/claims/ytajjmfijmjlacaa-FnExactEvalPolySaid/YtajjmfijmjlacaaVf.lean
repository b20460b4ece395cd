/- Walks: the greatest of two; PeakOf. -/
import Derived.Test.YtajjmfijmjlacaaVb
import Derived.Test.YtajjmfijmjlacaaVd
import Derived.Deep.RegionWith
namespace Go.Proofs.Ytajjmfijmjlacaa
open Go.RowKit
set_option linter.unusedVariables false
set_option linter.unusedSimpArgs false

def imax (a b : Int) : Int := if b < a then a else b
theorem imax_yes {a b : Int} (h : b < a) : imax a b = a := if_pos h
theorem imax_no {a b : Int} (h : ¬ b < a) : imax a b = b := if_neg h
theorem imax3 (p x : Int) : (if (if p < x then x else p) < -x then -x else if p < x then x else p) = imax p (imax x (-x)) := by
  unfold imax
  by_cases h1 : p < x
  · simp only [if_pos h1]
    by_cases h2 : x < -x
    · rw [if_pos h2]; (repeat' split) <;> omega
    · rw [if_neg h2]; (repeat' split) <;> omega
  · simp only [if_neg h1]
    by_cases h2 : p < -x
    · rw [if_pos h2]; (repeat' split) <;> omega
    · rw [if_neg h2]; (repeat' split) <;> omega
def pkN (f : Nat → Int) : Nat → Int
  | 0 => 0
  | k + 1 => imax (pkN f k) (imax (f k) (-(f k)))
theorem pkN_in {f : Nat → Int} (hf : ∀ k, -2147483648 ≤ f k ∧ f k ≤ 2147483647) : ∀ k, 0 ≤ pkN f k ∧ pkN f k ≤ 2147483648
  | 0 => ⟨by simp [pkN], by simp [pkN]⟩
  | k + 1 => by
    have := pkN_in hf k
    have := hf k
    show 0 ≤ imax _ (imax _ _) ∧ imax _ (imax _ _) ≤ _
    unfold imax
    split <;> split <;> omega
def peakOf (xs : List Int) : Int × Bool := if sigB xs then (pkN (fun k => xs.getD k 0) xs.length, true) else (0, false)
theorem peakOf_no {xs : List Int} (h : sigB xs = false) : ((0 : Int), false) = peakOf xs := by simp [peakOf, h]
theorem peakOf_yes {xs : List Int} {v : Int} (h : sigB xs = true) (hv : v = pkN (fun k => xs.getD k 0) xs.length) : (v, true) = peakOf xs := by simp [peakOf, h, hv]

theorem l00Max_any (a b : Int) (w : World) : Calls Try.prog 53 #[.int .i64 a, .int .i64 b] w fun e w' => e = .returned (.int .i64 (imax a b)) ∧ w = w' := by
  by_cases h : b < a
  · have H := Lib.hid (imax_yes h)
    go_enter Try.func53, Try.ntmps53
    go_wp2
    go_ret
    exact ⟨ret_int H.out.symm, rfl⟩
  · have H := Lib.hid (imax_no h)
    go_enter Try.func53, Try.ntmps53
    go_wp2
    go_ret
    exact ⟨ret_int H.out.symm, rfl⟩
set_option maxHeartbeats 1000000 in
theorem specPeakOf_any (A : Option Addr) (c : Nat) (xs : List Int) (w : World) (h : Arg w A c xs) :
    Calls Try.prog 23 #[.slice A xs.length c] w (IBIs (peakOf xs) w) := by
  have HA := Lib.hid (l03Ok_any A c xs w _ h.sl (by have := h.len; omega))
  have HS := Lib.hid h.sl
  clear h
  cases hs : sigB xs
  · have HR := Lib.hid (peakOf_no hs)
    rw [hs] at HA
    clear HS hs
    generalize peakOf xs = r at *
    generalize xs.length = n at *
    go_enter Try.func23, Try.ntmps23
    go_wp2_with fail
    refine HA.out.mono ?_
    rintro e w' ⟨rfl, rfl⟩
    go_wp2
    go_ret2
    exact ⟨_, _, rfl, HR.out, Below.refl _ _⟩
  · have HR : Hid (∀ v, v = pkN (fun k => xs.getD k 0) xs.length → (v, true) = peakOf xs) := fun v => peakOf_yes hs
    rw [hs] at HA
    obtain ⟨hlen, hsm⟩ := sigB_inv hs
    have HF : Hid (∀ k, -2147483648 ≤ xs.getD k 0 ∧ xs.getD k 0 ≤ 2147483647) := fun k => sgetD hsm
    clear hs hsm
    generalize peakOf xs = r at *
    obtain ⟨f, hf⟩ : ∃ f : Nat → Int, f = fun k => xs.getD k 0 := ⟨_, rfl⟩
    have HC : Hid (∀ k, k < xs.length → ∃ b o, A = some ⟨b, o, none⟩ ∧ w.cell? ⟨b, o + k, none⟩ = some (.int .i64 (f k))) := by
      intro k hk
      obtain ⟨b, o, h1, _, h2⟩ := HS.out (by omega)
      exact ⟨b, o, h1, by rw [hf]; exact h2 k hk⟩
    simp only [← congrFun hf _] at HR HF
    clear hf HS
    have HP := Lib.hid (pkN_in HF.out)
    generalize xs.length = n at *
    go_enter Try.func23, Try.ntmps23
    go_wp2_with fail
    refine HA.out.mono ?_
    rintro e w' ⟨rfl, rfl⟩
    go_wp2
    go_loopw [4, 5] (fun s i wr => ∃ k m : Nat, k ≤ n ∧ i = .int .i64 k ∧ s = .int .i64 (pkN f k) ∧ wr = w.drewN m) (fun s i _ => n - (intOf i).toNat)
    case atStart => exact ⟨0, 0, by omega, rfl, rfl, rfl⟩
    case round =>
      obtain ⟨k, m, hk, rfl, rfl, hwr⟩ := hrel
      have HW := Lib.hid hwr
      have hcw : ∀ p, wr.cell? p = w.cell? p := fun p => by rw [hwr]; rfl
      have HCW := Lib.hid hcw
      clear hwr hcw
      by_cases hlt : k < n
      · obtain ⟨b, o, rfl, e1⟩ := HC.out k hlt
        rw [← HCW.out] at e1
        obtain ⟨p1, p2⟩ := HP.out k
        obtain ⟨q1, q2⟩ := HF.out k
        have HST : Hid (pkN f (k + 1) = imax (pkN f k) (imax (f k) (-(f k)))) := rfl
        generalize pkN f k = p at *
        generalize f k = x at *
        go_wp2
        try (go_quiet ((first | (go_at_call_of 53 (Value.int IntKind.i64 x); exact quiet_eq (l00Max_any _ _ _)) | (go_at_call 53; exact quiet_eq (l00Max_any _ _ _)))); go_wp2)
        go_roundw
        case rel => exact ⟨k + 1, _, by omega, by go_num, by first | (rw [HST.out]; done) | rw [HST.out, imax3], by first | (rw [HW.out]; done) | (rw [HW.out]; rfl) | (rw [HW.out]; exact World.drewN_drewN ..)⟩
        case measure => simp [intOf]; omega
      · have hkn : k = n := by omega
        have HK := Lib.hid hkn
        clear hkn
        go_wp2
        go_ret2
        exact ⟨_, _, rfl, HR.out _ (by rw [HK.out]), by rw [HW.out]; exact below_of_drewN w m⟩
set_option maxHeartbeats 1000000 in
theorem implPeakOf_any (A : Option Addr) (c : Nat) (xs : List Int) (w : World) (h : Arg w A c xs) :
    Calls Try.prog 24 #[.slice A xs.length c] w (IBIs (peakOf xs) w) := by
  have HA := Lib.hid (isSignal_any A c xs w _ h.sl (by have := h.len; omega))
  have HS := Lib.hid h.sl
  clear h
  cases hs : sigB xs
  · have HR := Lib.hid (peakOf_no hs)
    rw [hs] at HA
    clear HS hs
    generalize peakOf xs = r at *
    generalize xs.length = n at *
    go_enter Try.func24, Try.ntmps24
    go_wp2_with fail
    refine HA.out.mono ?_
    rintro e w' ⟨rfl, rfl⟩
    go_wp2
    go_ret2
    exact ⟨_, _, rfl, HR.out, Below.refl _ _⟩
  · have HR : Hid (∀ v, v = pkN (fun k => xs.getD k 0) xs.length → (v, true) = peakOf xs) := fun v => peakOf_yes hs
    rw [hs] at HA
    obtain ⟨hlen, hsm⟩ := sigB_inv hs
    have HF : Hid (∀ k, -2147483648 ≤ xs.getD k 0 ∧ xs.getD k 0 ≤ 2147483647) := fun k => sgetD hsm
    clear hs hsm
    generalize peakOf xs = r at *
    obtain ⟨f, hf⟩ : ∃ f : Nat → Int, f = fun k => xs.getD k 0 := ⟨_, rfl⟩
    have HC : Hid (∀ k, k < xs.length → ∃ b o, A = some ⟨b, o, none⟩ ∧ w.cell? ⟨b, o + k, none⟩ = some (.int .i64 (f k))) := by
      intro k hk
      obtain ⟨b, o, h1, _, h2⟩ := HS.out (by omega)
      exact ⟨b, o, h1, by rw [hf]; exact h2 k hk⟩
    simp only [← congrFun hf _] at HR HF
    clear hf HS
    have HP := Lib.hid (pkN_in HF.out)
    generalize xs.length = n at *
    go_enter Try.func24, Try.ntmps24
    go_wp2_with fail
    refine HA.out.mono ?_
    rintro e w' ⟨rfl, rfl⟩
    go_wp2
    go_loopw [12, 4, 6] (fun i s _ wr => ∃ k m : Nat, k ≤ n ∧ i = .int .i64 k ∧ s = .int .i64 (pkN f k) ∧ wr = w.drewN m) (fun i s _ _ => n - (intOf i).toNat)
    case atStart => exact ⟨0, 0, by omega, rfl, rfl, rfl⟩
    case round =>
      obtain ⟨k, m, hk, rfl, rfl, hwr⟩ := hrel
      have HW := Lib.hid hwr
      have hcw : ∀ p, wr.cell? p = w.cell? p := fun p => by rw [hwr]; rfl
      have HCW := Lib.hid hcw
      clear hwr hcw
      by_cases hlt : k < n
      · obtain ⟨b, o, rfl, e1⟩ := HC.out k hlt
        rw [← HCW.out] at e1
        obtain ⟨p1, p2⟩ := HP.out k
        obtain ⟨q1, q2⟩ := HF.out k
        have HST : Hid (pkN f (k + 1) = imax (pkN f k) (imax (f k) (-(f k)))) := rfl
        generalize pkN f k = p at *
        generalize f k = x at *
        go_wp2
        try (go_quiet ((first | (go_at_call_of 53 (Value.int IntKind.i64 x); exact quiet_eq (l00Max_any _ _ _)) | (go_at_call 53; exact quiet_eq (l00Max_any _ _ _)))); go_wp2)
        go_roundw
        case rel => exact ⟨k + 1, _, by omega, by go_num, by first | (rw [HST.out]; done) | rw [HST.out, imax3], by first | (rw [HW.out]; done) | (rw [HW.out]; rfl) | (rw [HW.out]; exact World.drewN_drewN ..)⟩
        case measure => simp [intOf]; omega
      · have hkn : k = n := by omega
        have HK := Lib.hid hkn
        clear hkn
        go_wp2
        go_ret2
        exact ⟨_, _, rfl, HR.out _ (by rw [HK.out]), by rw [HW.out]; exact below_of_drewN w m⟩

end Go.Proofs.Ytajjmfijmjlacaa
