/- Walks: elements behind the end, parts of signals, sums. -/
import Derived.Test.YtajjmfijmjlacaaVi
import Derived.Test.YtajjmfijmjlacaaVf
namespace Go.Proofs.Ytajjmfijmjlacaa
open Go.RowKit
set_option linter.unusedVariables false
set_option linter.unusedSimpArgs false

/-- All numbers of a list are samples. -/
def Smp (xs : List Int) : Prop := ∀ k, -2147483648 ≤ xs.getD k 0 ∧ xs.getD k 0 ≤ 2147483647
theorem Smp.of {xs : List Int} (h : smps xs = true) : Smp xs := fun _ => sgetD h
theorem Smp.all {xs : List Int} (h : ∀ x ∈ xs, -2147483648 ≤ x ∧ x ≤ 2147483647) : Smp xs := by
  intro k
  rcases Nat.lt_or_ge k xs.length with hk | hk
  · have := h xs[k] (List.getElem_mem hk)
    simpa [List.getD_eq_getElem?_getD, hk] using this
  · rw [getD_behind hk]; exact ⟨by omega, by omega⟩
/-- A call that answers a number and leaves the world. -/
def NumIs (n : Int) (w : World) (e : Ending) (w' : World) : Prop := e = .returned (.int .i64 n) ∧ w = w'

theorem l03At_any (A : Option Addr) (c : Nat) (xs : List Int) (w : World) (h : Arg w A c xs) (i : Int) (k : Nat) (hi : i = k) (hk : k ≤ 1099511627776) : Calls Try.prog 79 #[.slice A xs.length c, .int .i64 i] w (NumIs (xs.getD k 0) w) := by
  subst hi
  have hl := h.len
  have HS := Lib.hid h.sl
  clear h
  by_cases hlt : k < xs.length
  · obtain ⟨b, o, rfl, _, hc⟩ := HS.out (by omega)
    have e1 := hc k hlt
    clear hc HS
    have G : Hid (inB 0 ((xs.length : Int) - 1) (k : Int) = true) := inB_mk (by omega) (by omega)
    generalize xs.getD k 0 = v at *
    generalize xs.length = n at *
    go_enter Try.func79, Try.ntmps79
    go_wp2_with (go_at_call 59; refine (l00In_is _ _ _ _ _ G.out).mono ?_; rintro e w' ⟨rfl, rfl⟩)
    go_ret
    exact ⟨rfl, rfl⟩
  · have HV := Lib.hid (getD_behind (xs := xs) (k := k) (by omega))
    have G : Hid (inB 0 ((xs.length : Int) - 1) (k : Int) = false) := inB_false.2 (by omega)
    clear HS
    generalize xs.getD k 0 = v at *
    generalize xs.length = n at *
    obtain rfl := HV.out
    go_enter Try.func79, Try.ntmps79
    go_wp2_with (go_at_call 59; refine (l00In_is _ _ _ _ _ G.out).mono ?_; rintro e w' ⟨rfl, rfl⟩)
    go_ret
    exact ⟨rfl, rfl⟩
theorem size_any (A : Option Addr) (n c : Nat) (w : World) : Calls Try.prog 62 #[.slice A n c] w (NumIs n w) := by
  go_enter Try.func62, Try.ntmps62
  go_wp2
  go_ret
  exact ⟨rfl, rfl⟩
theorem isCount_any (n : Int) (w : World) : Calls Try.prog 61 #[.int .i64 n] w fun e w' => e = .returned (.bool (inB 0 4000 n)) ∧ w = w' := by
  go_enter Try.func61, Try.ntmps61
  go_wp2_with (go_at_call 76; refine (within_any _ _ _ _).mono ?_; rintro e w' ⟨rfl, rfl⟩)
  go_ret
  exact ⟨rfl, rfl⟩
theorem at_any (A : Option Addr) (c : Nat) (xs : List Int) (w : World) (h : Arg w A c xs) (i : Int) (k : Nat) (hi : i = k) (hk : k ≤ 1099511627776) : Calls Try.prog 80 #[.slice A xs.length c, .int .i64 i] w (NumIs (xs.getD k 0) w) := by
  subst hi
  have hl := h.len
  have HS := Lib.hid h.sl
  clear h
  by_cases hlt : k < xs.length
  · obtain ⟨b, o, rfl, _, hc⟩ := HS.out (by omega)
    have e1 := hc k hlt
    clear hc HS
    generalize xs.getD k 0 = v at *
    generalize xs.length = n at *
    go_enter Try.func80, Try.ntmps80
    go_wp2_with (go_at_call 62; refine (size_any _ _ _ _).mono ?_; rintro e w' ⟨rfl, rfl⟩)
    go_ret
    exact ⟨rfl, rfl⟩
  · have HV := Lib.hid (getD_behind (xs := xs) (k := k) (by omega))
    clear HS
    generalize xs.getD k 0 = v at *
    generalize xs.length = n at *
    obtain rfl := HV.out
    go_enter Try.func80, Try.ntmps80
    go_wp2_with (go_at_call 62; refine (size_any _ _ _ _).mono ?_; rintro e w' ⟨rfl, rfl⟩)
    go_ret
    exact ⟨rfl, rfl⟩
/-- A fresh slice of n numbers. -/
def FreshN (n : Nat) (xs : List Int) (w : World) (e : Ending) (w' : World) : Prop :=
  ∃ A c, e = .returned (.slice A n c) ∧ Own w' w.heap.size w'.heap.size A c xs ∧ Below w.heap.size w w'
theorem zerosN_any (i : Int) (n : Nat) (hi : i = n) (w : World) (hn : n ≤ 4194304) : Calls Try.prog 63 #[.int .i64 i] w (FreshN n (List.replicate n 0) w) := by
  subst hi
  refine (zeros_any n w hn).mono ?_
  rintro e w' ⟨A, c, rfl, hO, hb⟩
  exact ⟨A, c, by rw [List.length_replicate], hO, hb⟩
set_option maxHeartbeats 1000000 in
theorem l03Slice_any (A : Option Addr) (c : Nat) (xs : List Int) (w : World) (h : Arg w A c xs) (o n : Nat) (ho : o ≤ 1048576) (hn : n ≤ 1048576) :
    Calls Try.prog 69 #[.slice A xs.length c, .int .i64 o, .int .i64 n] w (Fresh (sliT xs o n) w) := by
  have AT : Hid (∀ wr, Below w.heap.size w wr → ∀ (i : Int) (k : Nat), i = k → k ≤ 1099511627776 → Calls Try.prog 79 #[.slice A xs.length c, .int .i64 i] wr (NumIs (xs.getD k 0) wr)) :=
    fun wr hb i k => l03At_any A c xs wr (h.below hb) i k
  clear h
  have HT : Hid (tab n (fun k => xs.getD (o + k) 0) = sliT xs o n) := rfl
  obtain ⟨f, hf⟩ : ∃ f : Nat → Int, f = fun k => xs.getD k 0 := ⟨_, rfl⟩
  simp only [← hf, ← congrFun hf _] at AT HT
  clear hf
  generalize sliT xs o n = r at *
  generalize xs.length = m at *
  go_enter Try.func69, Try.ntmps69
  go_wp2
  go_loopw [7, 8] (fun v i wr => ∃ (j : Nat) (A : Option Addr) (c : Nat), j ≤ n ∧ i = .int .i64 j ∧ v = .slice A j c ∧ Own wr w.heap.size wr.heap.size A c (tab j (fun k => f (o + k))) ∧ Below w.heap.size w wr) (fun _ i _ => n - (intOf i).toNat)
  case atStart => exact ⟨0, _, _, by omega, rfl, rfl, Own.empty w, by (repeat (first | exact Below.refl _ _ | assumption | refine Below.setCell ?_ (by (try simp) <;> omega) _ | refine Below.alloc ?_ (by (try simp) <;> omega) _ | refine below_drewN_ ?_ | refine Below.drew ?_))⟩
  case round =>
    obtain ⟨j, A1, c1, hj, rfl, rfl, hown, hbr⟩ := hrel
    have hsz := hbr.size
    by_cases hlt : j < n
    · go_wp2_with fail
      refine (AT.out _ hbr _ (o + j) (by omega) (by omega)).mono ?_
      rintro e w' ⟨rfl, rfl⟩
      generalize hv : f (o + j) = v
      have HV := Lib.hid hv
      clear hv
      go_wp2_with (at_builtin; refine wl_app1 rfl (.tmp 15) (.tmp 21) rfl A1 c1 _ v _ rfl hown ?c1 rfl ?c2 ?c3 ?_)
      case c1 => rw [tab_length]
      case c2 => omega
      case c3 => omega
      intro A' c' w' hown' hb'
      go_wp2
      go_roundw
      case rel => exact ⟨j + 1, A', c', by omega, by go_num, rfl, by rw [tab_succ, HV.out]; exact hown', hbr.trans hb'⟩
      case measure => simp [intOf]; omega
    · have hjk : j = n := by omega
      subst hjk
      go_wp2
      go_ret
      exact fresh_of (by rw [← HT.out, tab_length]) (by rw [← HT.out]; exact hown) hbr
set_option maxHeartbeats 1000000 in
theorem slice_any (A : Option Addr) (c : Nat) (xs : List Int) (w : World) (h : Arg w A c xs) (o n : Nat) (ho : o ≤ 1048576) (hn : n ≤ 1048576) :
    Calls Try.prog 70 #[.slice A xs.length c, .int .i64 o, .int .i64 n] w (Fresh (sliT xs o n) w) := by
  have AT : Hid (∀ wr, Below w.heap.size w wr → ∀ (i : Int) (k : Nat), i = k → k ≤ 1099511627776 → Calls Try.prog 80 #[.slice A xs.length c, .int .i64 i] wr (NumIs (xs.getD k 0) wr)) :=
    fun wr hb i k => at_any A c xs wr (h.below hb) i k
  clear h
  have HT : Hid (tab n (fun k => xs.getD (o + k) 0) = sliT xs o n) := rfl
  obtain ⟨f, hf⟩ : ∃ f : Nat → Int, f = fun k => xs.getD k 0 := ⟨_, rfl⟩
  simp only [← hf, ← congrFun hf _] at AT HT
  clear hf
  generalize sliT xs o n = r at *
  generalize xs.length = m at *
  go_enter Try.func70, Try.ntmps70
  go_wp2_with fail
  refine (zerosN_any _ n rfl _ (by omega)).mono ?_
  rintro e w1 ⟨A1, c1, rfl, hO1, hb1⟩
  have hO2 := Lib.hid hO1
  clear hO1
  go_wp2
  go_loopw [8, 13] (fun _ i wr => ∃ (j : Nat), j ≤ n ∧ i = .int .i64 j ∧ Own wr w.heap.size w1.heap.size A1 c1 (tab n (part (fun k => f (o + k)) j)) ∧ Below w.heap.size w wr ∧ w1.heap.size ≤ wr.heap.size) (fun _ i _ => n - (intOf i).toNat)
  case atStart => exact ⟨0, by omega, rfl, by rw [← part_zero]; exact hO2.out, hb1, Nat.le_refl _⟩
  case round =>
    obtain ⟨j, hj, rfl, hown, hbr, hsz⟩ := hrel
    by_cases hlt : j < n
    · obtain ⟨g, rfl, hlo, hhi⟩ := hown.form (by rw [tab_length]; omega)
      have e1 := hown.cell j (by rw [tab_length]; exact hlt)
      have f1 := hown.notFrozen j
      generalize (tab n (part (fun k => f (o + k)) j)).getD j 0 = y at e1
      go_wp2_with fail
      refine (AT.out _ hbr _ (o + j) (by omega) (by omega)).mono ?_
      rintro e w' ⟨rfl, rfl⟩
      generalize hv : f (o + j) = v
      have HV := Lib.hid hv
      clear hv
      have HS := Lib.hid (hown.set j v)
      go_wp2
      go_roundw
      case rel => exact ⟨j + 1, by omega, by go_num, by rw [← part_set (F := fun k => f (o + k)) (v := v) HV.out.symm]; exact HS.out, hbr.setCell (by simp; omega) _, by simpa [World.setCell] using hsz⟩
      case measure => simp [intOf]; omega
    · have hjk : j = n := by omega
      subst hjk
      go_wp2
      go_ret
      exact fresh_of (by rw [← HT.out, tab_length]) (by rw [← HT.out, ← part_done]; exact hown.mono (Nat.le_refl _) hsz) hbr

end Go.Proofs.Ytajjmfijmjlacaa
