/- Walks: zeros, copies, elements behind the end, trimmed lists. -/
import Derived.Test.YtfgdkecmhgkpfaaMa
import Derived.Test.YtfgdkecmhgkpfaaVd
import Derived.Test.YtfgdkecmhgkpfaaVb
import Derived.Test.YtfgdkecmhgkpfaaPs
namespace Go.Proofs.Ytfgdkecmhgkpfaa
open Go.RowKit
set_option linter.unusedVariables false
set_option linter.unusedSimpArgs false

theorem fresh_of {xs : List Int} {w w' : World} {A : Option Addr} {n c : Nat} (hn : n = xs.length) (h : Own w' w.heap.size w'.heap.size A c xs) (hb : Below w.heap.size w w') : Fresh xs w (.returned (.slice A n c)) w' := by
  subst hn
  exact ⟨_, _, rfl, h, hb⟩
theorem Own.empty (w : World) : Own (w.alloc (.cells #[] 2)) w.heap.size (w.alloc (.cells #[] 2)).heap.size (some ⟨w.heap.size, 0, none⟩) 0 [] :=
  (Own.lit w [] (by simp)).mono (Nat.le_refl _) (by simp)
theorem Own.one (w : World) (x : Int) : Own (w.alloc (.cells #[.int .i64 x] 2)) w.heap.size (w.alloc (.cells #[.int .i64 x] 2)).heap.size (some ⟨w.heap.size, 0, none⟩) 1 [x] :=
  (Own.lit w [x] (by unfold maxLen; simp)).mono (Nat.le_refl _) (by simp)
theorem Arg.take {w : World} {A : Option Addr} {c : Nat} {xs : List Int} (h : Arg w A c xs) (k : Nat) (hk : k ≤ xs.length) : Arg w A c (xs.take k) := by
  have hl : (xs.take k).length = k := by rw [List.length_take]; omega
  refine ⟨?_, by rw [hl]; have := h.len; omega, by rw [hl]; have := h.cap; omega, h.capm, fun x hx => h.i64 x (List.mem_of_mem_take hx), h.nil⟩
  intro hp
  obtain ⟨b, off, rfl, hb, hc⟩ := h.sl (by omega)
  exact ⟨b, off, rfl, hb, fun j hj => by rw [getD_take (by omega)]; exact hc j (by omega)⟩
theorem Own.argOf {w : World} {lo : Nat} {A : Option Addr} {c : Nat} {xs : List Int} (h : Own w lo w.heap.size A c xs) (hl : xs.length ≤ 1048576) (hx : ∀ x ∈ xs, -2147483648 ≤ x ∧ x ≤ 2147483647) : Arg w A c xs :=
  h.arg (Nat.le_refl _) (by omega) (fun x hxm => ⟨by have := hx x hxm; omega, by have := hx x hxm; omega⟩)
theorem Arg.alloc {w : World} {A : Option Addr} {c : Nat} {xs : List Int} (h : Arg w A c xs) (o : Obj) : Arg (w.alloc o) A c xs :=
  h.below ((Below.refl _ _).alloc (Nat.le_refl _) o)

theorem zeros_any (n : Nat) (w : World) (hn : n ≤ 4194304) : Calls Try.prog 54 #[.int .i64 n] w (Fresh (List.replicate n 0) w) := by
  obtain ⟨i0, hi, hz0, hz1, hz2⟩ := info_parts infoI
  go_enter Try.func54, Try.ntmps54
  go_wp2_with (at_make; refine wpList_make_full _ rfl (.tmp 3) (.tmp 3) 22 rfl w.heap.size 2 i0 (.int .i64 0) 1 Try.underlying22 hi hz0 hz1 .i64 .i64 _ _ n rfl rfl rfl rfl (by rw [hz2]; omega) (by unfold maxLen; omega) (Nat.le_refl _) ?_; intro w1 hown0 hgr)
  have hown1 : Own w1 w.heap.size (w.heap.size + 1) (some ⟨w.heap.size, 0, none⟩) n (List.replicate n 0) := made_own hown0
  have hbel := (Below.refl w.heap.size w).grown hgr (Nat.le_refl _) (fun k h => by cases h)
  clear hown0 hgr
  go_ret
  exact fresh_mk (by simp) hown1 hbel
theorem l00Own_any (A : Option Addr) (c : Nat) (xs : List Int) (w : World) (h : Arg w A c xs) : Calls Try.prog 75 #[.slice A xs.length c] w (Fresh xs w) := by
  have HS := Lib.hid (h.sl.below ((Below.refl _ _).alloc (Nat.le_refl _) (.cells #[] 2)) (Nat.le_refl _))
  have hl := h.len
  have HNil := Lib.hid h.nil
  clear h
  generalize hn : xs.length = n at *
  have HN := Lib.hid hn
  clear hn
  go_enter Try.func75, Try.ntmps75
  go_wp2_with (at_builtin; refine wl_apps rfl (.tmp 3) (.tmp 4) rfl _ _ [] 0 rfl (Own.empty w) rfl w.heap.size A c xs n rfl HS.out HN.out.symm HNil.out ?c1 ?c2 ?_)
  case c1 => omega
  case c2 => simp
  intro A' c' w' hown' hb'
  have hbel : Below w.heap.size w w' := ((Below.refl _ _).alloc (Nat.le_refl _) _).trans hb'
  go_wp2
  go_ret
  exact fresh_of (by simp [HN.out]) hown' hbel
theorem clone_any (A : Option Addr) (c : Nat) (xs : List Int) (w : World) (h : Arg w A c xs) : Calls Try.prog 70 #[.slice A xs.length c] w (Fresh xs w) := by
  have HS := Lib.hid (h.sl.below ((Below.refl _ _).alloc (Nat.le_refl _) (.cells #[] 2)) (Nat.le_refl _))
  have hl := h.len
  have HNil := Lib.hid h.nil
  clear h
  generalize hn : xs.length = n at *
  have HN := Lib.hid hn
  clear hn
  go_enter Try.func70, Try.ntmps70
  go_wp2_with (at_builtin; refine wl_apps rfl (.tmp 3) (.tmp 4) rfl _ _ [] 0 rfl (Own.empty w) rfl w.heap.size A c xs n rfl HS.out HN.out.symm HNil.out ?c1 ?c2 ?_)
  case c1 => omega
  case c2 => simp
  intro A' c' w' hown' hb'
  have hbel : Below w.heap.size w w' := ((Below.refl _ _).alloc (Nat.le_refl _) _).trans hb'
  go_wp2
  go_ret
  exact fresh_of (by simp [HN.out]) hown' hbel

end Go.Proofs.Ytfgdkecmhgkpfaa
