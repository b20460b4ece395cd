/- Walks: ValidSignal, ValidPoly. -/
import Derived.Test.YtajjmfijmjlacaaVb
import Derived.Test.YtajjmfijmjlacaaVd
namespace Go.Proofs.Ytajjmfijmjlacaa
open Go.RowKit
set_option linter.unusedVariables false

theorem specValidSignal_any (A : Option Addr) (c : Nat) (xs : List Int) (w : World) (h : Arg w A c xs) :
    Calls Try.prog 19 #[.slice A xs.length c] w (BIs (sigB xs) w) := by
  have HA := Lib.hid (l03Ok_any A c xs w _ h.sl (by have := h.len; omega))
  clear h
  generalize sigB xs = b at *
  generalize xs.length = n at *
  go_enter Try.func19, Try.ntmps19
  go_wp2_with fail
  refine HA.out.mono ?_
  rintro e w' ⟨rfl, rfl⟩
  go_wp2
  go_ret
  exact ⟨_, rfl, rfl, Below.refl _ _⟩
theorem implValidSignal_any (A : Option Addr) (c : Nat) (xs : List Int) (w : World) (h : Arg w A c xs) :
    Calls Try.prog 20 #[.slice A xs.length c] w (BIs (sigB xs) w) := by
  have HA := Lib.hid (isSignal_any A c xs w _ h.sl (by have := h.len; omega))
  clear h
  generalize sigB xs = b at *
  generalize xs.length = n at *
  go_enter Try.func20, Try.ntmps20
  go_wp2_with fail
  refine HA.out.mono ?_
  rintro e w' ⟨rfl, rfl⟩
  go_wp2
  go_ret
  exact ⟨_, rfl, rfl, Below.refl _ _⟩
theorem specValidPoly_any (A : Option Addr) (c : Nat) (xs : List Int) (w : World) (h : Arg w A c xs) :
    Calls Try.prog 21 #[.slice A xs.length c] w (BIs (polB xs) w) := by
  have HA := Lib.hid (l04Ok_any A c xs w _ h.sl (by have := h.len; omega))
  clear h
  generalize polB xs = b at *
  generalize xs.length = n at *
  go_enter Try.func21, Try.ntmps21
  go_wp2_with fail
  refine HA.out.mono ?_
  rintro e w' ⟨rfl, rfl⟩
  go_wp2
  go_ret
  exact ⟨_, rfl, rfl, Below.refl _ _⟩
theorem implValidPoly_any (A : Option Addr) (c : Nat) (xs : List Int) (w : World) (h : Arg w A c xs) :
    Calls Try.prog 22 #[.slice A xs.length c] w (BIs (polB xs) w) := by
  have HA := Lib.hid (isPoly_any A c xs w _ h.sl (by have := h.len; omega))
  clear h
  generalize polB xs = b at *
  generalize xs.length = n at *
  go_enter Try.func22, Try.ntmps22
  go_wp2_with fail
  refine HA.out.mono ?_
  rintro e w' ⟨rfl, rfl⟩
  go_wp2
  go_ret
  exact ⟨_, rfl, rfl, Below.refl _ _⟩

end Go.Proofs.Ytajjmfijmjlacaa
