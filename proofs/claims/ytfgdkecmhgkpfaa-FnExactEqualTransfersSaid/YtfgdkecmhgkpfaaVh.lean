/- Walks: trimmed lists. -/
import Derived.Test.YtfgdkecmhgkpfaaVg
namespace Go.Proofs.Ytfgdkecmhgkpfaa
open Go.RowKit
set_option linter.unusedVariables false
set_option linter.unusedSimpArgs false

/-- A fresh slice with the list xs, told of a value. -/
theorem Fresh.congr {xs ys : List Int} {w : World} {e : Ending} {w' : World} (h : xs = ys) (hf : Fresh xs w e w') : Fresh ys w e w' := h ▸ hf
theorem trimL_one {xs : List Int} (h1 : 1 ≤ xs.length) (h : lenF (fun k => xs.getD k 0) 1 = lenF (fun k => xs.getD k 0) xs.length) : xs.take 1 = trimL xs := by
  obtain ⟨x, l, rfl⟩ : ∃ x l, xs = x :: l := by
    rcases xs with _ | ⟨x, l⟩
    · simp at h1
    · exact ⟨x, l, rfl⟩
  by_cases hx : x = 0
  · have h0 : lenF (fun k => (x :: l).getD k 0) 1 = 0 := by
      show (if (x :: l).getD 0 0 = 0 then 0 else 1) = 0
      simp [hx]
    rw [trimL_none (by rw [← h, h0]), hx]
    rfl
  · have h0 : lenF (fun k => (x :: l).getD k 0) 1 = 1 := by
      show (if (x :: l).getD 0 0 = 0 then 0 else 1) = 1
      simp [hx]
    rw [trimL_some (by rw [← h, h0]; omega), ← h, h0]
theorem trimL_stop {xs : List Int} {k : Nat} (hk : k ≠ 0) (h : lenF (fun k => xs.getD k 0) k = lenF (fun k => xs.getD k 0) xs.length) (hz : xs.getD (k - 1) 0 ≠ 0) : xs.take k = trimL xs := by
  obtain ⟨j, rfl⟩ : ∃ j, k = j + 1 := ⟨k - 1, by omega⟩
  have e : lenF (fun k => xs.getD k 0) (j + 1) = j + 1 := lenF_stop (by simpa using hz)
  rw [trimL_some (by rw [← h, e]; omega), ← h, e]

set_option maxHeartbeats 1000000 in
theorem l04Trim_any (A : Option Addr) (c : Nat) (xs : List Int) (w : World) (h : Arg w A c xs) : Calls Try.prog 68 #[.slice A xs.length c] w (Fresh (trimL xs) w) := by
  have HS := Lib.hid h.sl
  have H := Lib.hid h
  have hl := h.len
  have hcap := h.cap
  have hcm := h.capm
  unfold maxLen at hcm
  clear h
  have ONE : Hid (1 ≤ xs.length → lenF (fun k => xs.getD k 0) 1 = lenF (fun k => xs.getD k 0) xs.length → xs.take 1 = trimL xs) := fun a b => trimL_one a b
  have STOP : Hid (∀ k, k ≠ 0 → lenF (fun k => xs.getD k 0) k = lenF (fun k => xs.getD k 0) xs.length → xs.getD (k - 1) 0 ≠ 0 → xs.take k = trimL xs) := fun k a b d => trimL_stop a b d
  have NONE : Hid (lenF (fun k => xs.getD k 0) 0 = lenF (fun k => xs.getD k 0) xs.length → [0] = trimL xs) := fun a => (trimL_none a.symm).symm
  obtain ⟨f, hf⟩ : ∃ f : Nat → Int, f = fun k => xs.getD k 0 := ⟨_, rfl⟩
  have C : Hid (∀ k, k < xs.length → ∃ b o, A = some ⟨b, o, none⟩ ∧ w.cell? ⟨b, o + k, none⟩ = some (.int .i64 (f k))) := by
    intro k hk
    obtain ⟨b, o, h1, _, h2⟩ := HS.out (by omega)
    exact ⟨b, o, h1, by rw [hf]; exact h2 k hk⟩
  simp only [← hf, ← congrFun hf _] at ONE STOP NONE
  clear hf HS
  have ARG : Hid (∀ k, k ≤ xs.length → Arg w A c (xs.take k)) := fun k hk => H.out.take k hk
  clear H
  have TL : Hid (∀ k, k ≤ xs.length → (xs.take k).length = k) := fun k hk => by rw [List.length_take]; omega
  generalize xs.length = n at *
  generalize trimL xs = r at *
  go_enter Try.func68, Try.ntmps68
  go_wp2
  go_loop [3] (fun i => ∃ k : Nat, k ≤ n ∧ i = .int .i64 k ∧ lenF f k = lenF f n) (fun i => (intOf i).toNat)
  case atStart => exact ⟨n, by omega, rfl, rfl⟩
  case round =>
    obtain ⟨k, hk, rfl, hlen⟩ := hrel
    have HLEN := Lib.hid hlen
    clear hlen
    by_cases hm : 1 < k
    · obtain ⟨b, o, rfl, e1⟩ := C.out (k - 1) (by omega)
      by_cases hz : f (k - 1) = 0
      · have HZ := Lib.hid hz
        rw [hz] at e1
        clear hz
        go_wp2
        go_round
        case rel => exact ⟨k - 1, by omega, by go_num, by rw [← HLEN.out]; obtain ⟨j, rfl⟩ : ∃ j, k = j + 1 := ⟨k - 1, by omega⟩; exact (lenF_zero (by simpa using HZ.out)).symm⟩
        case measure => simp [intOf]; omega
      · have HZ := Lib.hid hz
        have HX := Lib.hid (STOP.out k (by omega) HLEN.out hz)
        have hk0 : ((k : Int) == 0) = false := by simp; omega
        generalize f (k - 1) = z at *
        have hz0 : (z == 0) = false := by simpa using hz
        clear hz
        go_wp2_with fail
        have TK := TL.out k hk
        have HO := l00Own_any _ _ _ _ (ARG.out k hk)
        rw [TK] at HO
        refine HO.mono ?_
        rintro e w1 ⟨A', c', rfl, hO, hb⟩
        go_wp2
        go_ret
        exact fresh_of (by rw [← HX.out, TL.out k hk]) (by rw [← HX.out]; exact hO) hb
    · rcases Nat.eq_zero_or_pos k with h0 | h0
      · subst h0
        have HX := Lib.hid (NONE.out HLEN.out)
        go_wp2
        go_ret
        exact fresh_of (by rw [← HX.out]; rfl) (by rw [← HX.out]; exact Own.one w 0) (by (repeat (first | exact Below.refl _ _ | assumption | refine Below.setCell ?_ (by (try simp) <;> omega) _ | refine Below.alloc ?_ (by (try simp) <;> omega) _ | refine below_drewN_ ?_ | refine Below.drew ?_)))
      · first
        | (exfalso; omega)
        | (have HX : Hid (xs.take k = r) := by
             have e : k = 1 := by omega
             rw [e]
             exact ONE.out (by omega) (by rw [← HLEN.out, e])
           have hk0 : ((k : Int) == 0) = false := by simp; omega
           go_wp2_with fail
           have TK := TL.out k hk
           have HO := l00Own_any _ _ _ _ (ARG.out k hk)
           rw [TK] at HO
           refine HO.mono ?_
           rintro e w1 ⟨A', c', rfl, hO, hb⟩
           go_wp2
           go_ret
           exact fresh_of (by rw [← HX.out, TL.out k hk]) (by rw [← HX.out]; exact hO) hb)
set_option maxHeartbeats 1000000 in
theorem trim_any (A : Option Addr) (c : Nat) (xs : List Int) (w : World) (h : Arg w A c xs) : Calls Try.prog 50 #[.slice A xs.length c] w (Fresh (trimL xs) w) := by
  have HS := Lib.hid h.sl
  have H := Lib.hid h
  have hl := h.len
  have hcap := h.cap
  have hcm := h.capm
  unfold maxLen at hcm
  clear h
  have ONE : Hid (1 ≤ xs.length → lenF (fun k => xs.getD k 0) 1 = lenF (fun k => xs.getD k 0) xs.length → xs.take 1 = trimL xs) := fun a b => trimL_one a b
  have STOP : Hid (∀ k, k ≠ 0 → lenF (fun k => xs.getD k 0) k = lenF (fun k => xs.getD k 0) xs.length → xs.getD (k - 1) 0 ≠ 0 → xs.take k = trimL xs) := fun k a b d => trimL_stop a b d
  have NONE : Hid (lenF (fun k => xs.getD k 0) 0 = lenF (fun k => xs.getD k 0) xs.length → [0] = trimL xs) := fun a => (trimL_none a.symm).symm
  obtain ⟨f, hf⟩ : ∃ f : Nat → Int, f = fun k => xs.getD k 0 := ⟨_, rfl⟩
  have C : Hid (∀ k, k < xs.length → ∃ b o, A = some ⟨b, o, none⟩ ∧ w.cell? ⟨b, o + k, none⟩ = some (.int .i64 (f k))) := by
    intro k hk
    obtain ⟨b, o, h1, _, h2⟩ := HS.out (by omega)
    exact ⟨b, o, h1, by rw [hf]; exact h2 k hk⟩
  simp only [← hf, ← congrFun hf _] at ONE STOP NONE
  clear hf HS
  have ARG : Hid (∀ k, k ≤ xs.length → Arg w A c (xs.take k)) := fun k hk => H.out.take k hk
  clear H
  have TL : Hid (∀ k, k ≤ xs.length → (xs.take k).length = k) := fun k hk => by rw [List.length_take]; omega
  generalize xs.length = n at *
  generalize trimL xs = r at *
  go_enter Try.func50, Try.ntmps50
  go_wp2
  go_loop [3] (fun i => ∃ k : Nat, k ≤ n ∧ i = .int .i64 k ∧ lenF f k = lenF f n) (fun i => (intOf i).toNat)
  case atStart => exact ⟨n, by omega, rfl, rfl⟩
  case round =>
    obtain ⟨k, hk, rfl, hlen⟩ := hrel
    have HLEN := Lib.hid hlen
    clear hlen
    by_cases hm : 0 < k
    · obtain ⟨b, o, rfl, e1⟩ := C.out (k - 1) (by omega)
      by_cases hz : f (k - 1) = 0
      · have HZ := Lib.hid hz
        rw [hz] at e1
        clear hz
        go_wp2
        go_round
        case rel => exact ⟨k - 1, by omega, by go_num, by rw [← HLEN.out]; obtain ⟨j, rfl⟩ : ∃ j, k = j + 1 := ⟨k - 1, by omega⟩; exact (lenF_zero (by simpa using HZ.out)).symm⟩
        case measure => simp [intOf]; omega
      · have HZ := Lib.hid hz
        have HX := Lib.hid (STOP.out k (by omega) HLEN.out hz)
        have hk0 : ((k : Int) == 0) = false := by simp; omega
        generalize f (k - 1) = z at *
        have hz0 : (z == 0) = false := by simpa using hz
        clear hz
        go_wp2_with fail
        have TK := TL.out k hk
        have HO := clone_any _ _ _ _ (ARG.out k hk)
        rw [TK] at HO
        refine HO.mono ?_
        rintro e w1 ⟨A', c', rfl, hO, hb⟩
        go_wp2
        go_ret
        exact fresh_of (by rw [← HX.out, TL.out k hk]) (by rw [← HX.out]; exact hO) hb
    · rcases Nat.eq_zero_or_pos k with h0 | h0
      · subst h0
        have HX := Lib.hid (NONE.out HLEN.out)
        go_wp2
        go_ret
        exact fresh_of (by rw [← HX.out]; rfl) (by rw [← HX.out]; exact Own.one w 0) (by (repeat (first | exact Below.refl _ _ | assumption | refine Below.setCell ?_ (by (try simp) <;> omega) _ | refine Below.alloc ?_ (by (try simp) <;> omega) _ | refine below_drewN_ ?_ | refine Below.drew ?_)))
      · first
        | (exfalso; omega)
        | (have HX : Hid (xs.take k = r) := by
             have e : k = 1 := by omega
             rw [e]
             exact ONE.out (by omega) (by rw [← HLEN.out, e])
           have hk0 : ((k : Int) == 0) = false := by simp; omega
           go_wp2_with fail
           have TK := TL.out k hk
           have HO := clone_any _ _ _ _ (ARG.out k hk)
           rw [TK] at HO
           refine HO.mono ?_
           rintro e w1 ⟨A', c', rfl, hO, hb⟩
           go_wp2
           go_ret
           exact fresh_of (by rw [← HX.out, TL.out k hk]) (by rw [← HX.out]; exact hO) hb)

end Go.Proofs.Ytfgdkecmhgkpfaa
