/- Walks: sums and products of polynomials. -/
import Derived.Test.YtfgdkecmhgkpfaaVn
namespace Go.Proofs.Ytfgdkecmhgkpfaa
open Go.RowKit
set_option linter.unusedVariables false
set_option linter.unusedSimpArgs false

theorem pol_len {xs : List Int} (h : polB xs = true) : 1 ≤ xs.length ∧ xs.length ≤ 65 := ⟨(polB_inv h).1, (polB_inv h).2.1⟩
theorem pol_smp {xs : List Int} (h : polB xs = true) : Smp xs := .of (polB_inv h).2.2.1

set_option maxHeartbeats 1000000 in
theorem arePolys_any (A : Option Addr) (c : Nat) (xs : List Int) (A2 : Option Addr) (c2 : Nat) (ys : List Int) (w : World) (h : Arg w A c xs) (h2 : Arg w A2 c2 ys) :
    Calls Try.prog 60 #[.slice (some ⟨w.heap.size, 0, none⟩) 2 2] (w.alloc (.cells #[.slice A xs.length c, .slice A2 ys.length c2] 22)) fun e w' => e = .returned (.bool (polB xs && polB ys)) ∧ w.alloc (.cells #[.slice A xs.length c, .slice A2 ys.length c2] 22) = w' := by
  have HA := Lib.hid (isPoly_any A c xs _ _ (h.alloc (.cells #[.slice A xs.length c, .slice A2 ys.length c2] 22)).sl (by have := h.len; omega))
  have HA2 := Lib.hid (isPoly_any A2 c2 ys _ _ (h2.alloc (.cells #[.slice A xs.length c, .slice A2 ys.length c2] 22)).sl (by have := h2.len; omega))
  have c0 : (w.alloc (.cells #[.slice A xs.length c, .slice A2 ys.length c2] 22)).cell? ⟨w.heap.size, 0, none⟩ = some (.slice A xs.length c) := by go_simp
  have c1 : (w.alloc (.cells #[.slice A xs.length c, .slice A2 ys.length c2] 22)).cell? ⟨w.heap.size, 1, none⟩ = some (.slice A2 ys.length c2) := by go_simp
  clear h h2
  generalize polB xs = b at *
  generalize polB ys = b2 at *
  generalize xs.length = n at *
  generalize ys.length = n2 at *
  generalize w.alloc (.cells #[.slice A n c, .slice A2 n2 c2] 22) = W at *
  generalize w.heap.size = g at *
  go_enter Try.func60, Try.ntmps60
  go_wp2_with fail
  go_loop [4, 7] (fun _ t => ∃ k : Nat, k ≤ 2 ∧ t = .int .i64 k ∧ (0 < k → b = true) ∧ (1 < k → b2 = true)) (fun _ t => 2 - (intOf t).toNat)
  case atStart => exact ⟨0, by omega, rfl, by omega, by omega⟩
  case round =>
    obtain ⟨k, hk, rfl, hk0, hk1⟩ := hrel
    have K0 := Lib.hid hk0
    have K1 := Lib.hid hk1
    clear hk0 hk1
    obtain rfl | rfl | rfl : k = 0 ∨ k = 1 ∨ k = 2 := by omega
    · cases b
      · go_wp2_with (go_at_call 73; refine HA.out.mono ?_; rintro e w1 ⟨rfl, rfl⟩)
        go_ret
        exact ⟨rfl, rfl⟩
      · go_wp2_with (go_at_call 73; refine HA.out.mono ?_; rintro e w1 ⟨rfl, rfl⟩)
        go_round
        case rel => exact ⟨1, by omega, rfl, fun _ => by simp, by omega⟩
        case measure => simp [intOf]
    · have g1 := K0.out (by omega)
      subst g1
      cases b2
      · go_wp2_with (go_at_call 73; refine HA2.out.mono ?_; rintro e w1 ⟨rfl, rfl⟩)
        go_ret
        exact ⟨rfl, rfl⟩
      · go_wp2_with (go_at_call 73; refine HA2.out.mono ?_; rintro e w1 ⟨rfl, rfl⟩)
        go_round
        case rel => exact ⟨2, by omega, rfl, fun _ => by simp, fun _ => by simp⟩
        case measure => simp [intOf]
    · have g1 := K0.out (by omega)
      have g2 := K1.out (by omega)
      subst g1 g2
      go_wp2
      go_ret
      exact ⟨rfl, rfl⟩
set_option maxHeartbeats 1000000 in
theorem l04Add_any (A : Option Addr) (c : Nat) (xs : List Int) (A2 : Option Addr) (c2 : Nat) (ys : List Int) (g : Int) (w : World) (h : Arg w A c xs) (h2 : Arg w A2 c2 ys) :
    Calls Try.prog 49 #[.slice A xs.length c, .slice A2 ys.length c2, .int .i64 g] w (Fresh (trimL (addT xs g ys)) w) := by
  have AT : Hid (∀ wr, Below w.heap.size w wr → ∀ (i : Int) (k : Nat), i = k → k ≤ 1099511627776 → Calls Try.prog 57 #[.slice A xs.length c, .int .i64 i] wr (NumIs (xs.getD k 0) wr)) :=
    fun wr hb i k => l03At_any A c xs wr (h.below hb) i k
  have AT2 : Hid (∀ wr, Below w.heap.size w wr → ∀ (i : Int) (k : Nat), i = k → k ≤ 1099511627776 → Calls Try.prog 57 #[.slice A2 ys.length c2, .int .i64 i] wr (NumIs (ys.getD k 0) wr)) :=
    fun wr hb i k => l03At_any A2 c2 ys wr (h2.below hb) i k
  have hl := h.len
  have hl2 := h2.len
  clear h h2
  have HT : Hid (tab (max xs.length ys.length) (fun k => wrap32 (xs.getD k 0 + g * ys.getD k 0)) = addT xs g ys) := rfl
  have HM : ∃ M, M = max xs.length ys.length := ⟨_, rfl⟩
  obtain ⟨M, hM⟩ := HM
  rw [← hM] at HT
  have HMX := Lib.hid hM
  have hMl : M ≤ 1048576 := by omega
  clear hM
  obtain ⟨f, hf⟩ : ∃ f : Nat → Int, f = fun k => xs.getD k 0 := ⟨_, rfl⟩
  obtain ⟨f2, hf2⟩ : ∃ f : Nat → Int, f = fun k => ys.getD k 0 := ⟨_, rfl⟩
  simp only [← hf, ← congrFun hf _, ← hf2, ← congrFun hf2 _] at AT AT2 HT
  clear hf hf2
  generalize addT xs g ys = r at *
  generalize xs.length = n at *
  generalize ys.length = n2 at *
  go_enter Try.func49, Try.ntmps49
  go_wp2_with fail
  go_loopw [7, 8] (fun v i wr => ∃ (j : Nat) (A : Option Addr) (c : Nat), j ≤ M ∧ i = .int .i64 j ∧ v = .slice A j c ∧ Own wr w.heap.size wr.heap.size A c (tab j (fun k => wrap32 (f k + g * f2 k))) ∧ Below w.heap.size w wr) (fun _ i _ => M - (intOf i).toNat)
  case atStart => exact ⟨0, _, _, by omega, rfl, rfl, Own.empty w, by (repeat (first | exact Below.refl _ _ | assumption | refine Below.setCell ?_ (by (try simp) <;> omega) _ | refine Below.alloc ?_ (by (try simp) <;> omega) _ | refine below_drewN_ ?_ | refine Below.drew ?_))⟩
  case round =>
    obtain ⟨j, A1, c1, hj, rfl, rfl, hown, hbr⟩ := hrel
    have hsz := hbr.size
    by_cases hlt : j < M
    · go_wp2_with fail
      refine (l00MaxN_any _ _ n n2 M HMX.out rfl rfl _).mono ?_
      rintro e w1 ⟨rfl, rfl⟩
      go_wp2_with fail
      refine (AT.out _ hbr _ j rfl (by omega)).mono ?_
      rintro e w' ⟨rfl, rfl⟩
      go_wp2_with fail
      refine (AT2.out _ hbr _ j rfl (by omega)).mono ?_
      rintro e w' ⟨rfl, rfl⟩
      go_wp2_with fail
      refine (specMul_any _ _ _).mono ?_
      rintro e w' ⟨rfl, rfl⟩
      go_wp2_with fail
      refine (specAdd_any _ _ _).mono ?_
      rintro e w' ⟨rfl, rfl⟩
      have HV := Lib.hid (show wrap32 (f j + wrap32 (g * f2 j)) = wrap32 (f j + g * f2 j) by rw [wrap32_addr])
      generalize wrap32 (f j + wrap32 (g * f2 j)) = v at *
      go_wp2_with (at_builtin; refine wl_app1 rfl (.tmp 19) (.tmp 29) rfl A1 c1 _ v _ rfl hown ?c1 rfl ?c2 ?c3 ?_)
      case c1 => rw [tab_length]
      case c2 => omega
      case c3 => omega
      intro A' c' w' hown' hb'
      go_wp2
      go_roundw
      case rel => exact ⟨j + 1, A', c', by omega, by go_num, rfl, by rw [tab_succ, ← HV.out]; exact hown', hbr.trans hb'⟩
      case measure => simp [intOf]; omega
    · have hjk : j = M := by omega
      subst hjk
      have HA := Lib.hid (l04Trim_any A1 c1 _ _ (hown.argOf (by rw [tab_length]; omega) (tab_all fun k _ => ⟨wrap32_lo _, wrap32_hi _⟩)))
      rw [tab_length, HT.out] at HA
      clear hown
      go_wp2_with fail
      refine (l00MaxN_any _ _ n n2 j HMX.out rfl rfl _).mono ?_
      rintro e w1 ⟨rfl, rfl⟩
      go_wp2_with fail
      refine HA.out.mono ?_
      rintro e w2 ⟨A3, c3, rfl, hO3, hb3⟩
      go_wp2
      go_ret
      exact fresh_of rfl (hO3.mono hsz (Nat.le_refl _)) (nxt hbr hb3 hsz)

/-- A result over two polynomials. -/
def two (xs ys : List Int) (r : List Int × Int) : List Int × Int := if polB xs && polB ys then r else ([], 1)
theorem two_no {xs ys : List Int} {r : List Int × Int} (h : (polB xs && polB ys) = false) : ([], 1) = two xs ys r := by simp [two, h]
theorem two_yes {xs ys : List Int} {r : List Int × Int} (h : polB xs = true) (h' : polB ys = true) : r = two xs ys r := by simp [two, h, h']
def addPolyOf (g : Int) (xs ys : List Int) : List Int × Int := two xs ys (trimL (addT xs g ys), 0)
def mulOf (xs ys : List Int) : List Int × Int := two xs ys (fitR (mulL xs ys))
theorem addT_pol {g : Int} {xs ys : List Int} (h : polB xs = true) (h' : polB ys = true) : (addT xs g ys).length ≤ 65 ∧ (trimL (addT xs g ys)).length ≤ 65 := by
  have h1 := pol_len h
  have h2 := pol_len h'
  have h3 := addT_length xs g ys
  have h4 := trimL_le (addT xs g ys)
  omega


end Go.Proofs.Ytfgdkecmhgkpfaa
