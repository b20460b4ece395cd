/- Walks: zeros, copies, elements behind the end, trimmed lists. -/
import Derived.Test.YtplioelpmfeabaaDoorMa
import Derived.Test.YtplioelpmfeabaaDoorVd
import Derived.Test.YtplioelpmfeabaaDoorVb
import Derived.Test.YtplioelpmfeabaaDoorPs
namespace Go.Proofs.YtplioelpmfeabaaDoor
open Go.RowKit
set_option linter.unusedVariables false
set_option linter.unusedSimpArgs false

theorem fresh_of {xs : List Int} {w w' : World} {A : Option Addr} {n c : Nat} (hn : n = xs.length) (h : Own w' w.heap.size w'.heap.size A c xs) (hb : Below w.heap.size w w') : Fresh xs w (.returned (.slice A n c)) w' := by
  subst hn
  exact ⟨_, _, rfl, h, hb⟩
theorem Own.empty (w : World) : Own (w.alloc (.cells #[] 2)) w.heap.size (w.alloc (.cells #[] 2)).heap.size (some ⟨w.heap.size, 0, none⟩) 0 [] :=
  (Own.lit w [] (by simp)).mono (Nat.le_refl _) (by simp)
theorem Own.one (w : World) (x : Int) : Own (w.alloc (.cells #[.int .i64 x] 2)) w.heap.size (w.alloc (.cells #[.int .i64 x] 2)).heap.size (some ⟨w.heap.size, 0, none⟩) 1 [x] :=
  (Own.lit w [x] (by unfold maxLen; simp)).mono (Nat.le_refl _) (by simp)
theorem Arg.take {w : World} {A : Option Addr} {c : Nat} {xs : List Int} (h : Arg w A c xs) (k : Nat) (hk : k ≤ xs.length) : Arg w A c (xs.take k) := by
  have hl : (xs.take k).length = k := by rw [List.length_take]; omega
  refine ⟨?_, by rw [hl]; have := h.len; omega, by rw [hl]; have := h.cap; omega, h.capm, fun x hx => h.i64 x (List.mem_of_mem_take hx), h.nil⟩
  intro hp
  obtain ⟨b, off, rfl, hb, hc⟩ := h.sl (by omega)
  exact ⟨b, off, rfl, hb, fun j hj => by rw [getD_take (by omega)]; exact hc j (by omega)⟩
theorem Own.argOf {w : World} {lo : Nat} {A : Option Addr} {c : Nat} {xs : List Int} (h : Own w lo w.heap.size A c xs) (hl : xs.length ≤ 1048576) (hx : ∀ x ∈ xs, -2147483648 ≤ x ∧ x ≤ 2147483647) : Arg w A c xs :=
  h.arg (Nat.le_refl _) (by omega) (fun x hxm => ⟨by have := hx x hxm; omega, by have := hx x hxm; omega⟩)
theorem Arg.alloc {w : World} {A : Option Addr} {c : Nat} {xs : List Int} (h : Arg w A c xs) (o : Obj) : Arg (w.alloc o) A c xs :=
  h.below ((Below.refl _ _).alloc (Nat.le_refl _) o)


end Go.Proofs.YtplioelpmfeabaaDoor
