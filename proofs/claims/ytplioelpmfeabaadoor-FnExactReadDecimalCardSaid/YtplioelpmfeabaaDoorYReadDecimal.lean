/- The law ReadDecimal. -/
import Derived.Test.YtplioelpmfeabaaDoorQd
namespace Go.Proofs.YtplioelpmfeabaaDoor
open Go.RowKit
set_option linter.unusedVariables false
set_option linter.unusedSimpArgs false

theorem walk_FnExactReadDecimal (s : ByteArray) (w : World) (hs : s.size ≤ maxLen) (hE : RdEnv w.heap.size w) :
    Calls Tryd.prog 4 #[.string s] w fun e w' => e = .returned (.bool true) ∧ Below w.heap.size w w' := by
  unfold maxLen at hs
  by_cases hb : 1048576 < s.size
  · clear hE
    go_enter Tryd.func4, Tryd.ntmps4
    go_wp2
    go_ret
    exact ⟨rfl, Below.refl _ _⟩
  have hs2 : s.size ≤ 1048576 := by omega
  clear hs hb
  have HE := Lib.hid hE
  have H1 := Lib.hid (specReadDecimal_any s w hs2)
  have H2 : Hid (∀ w', Below w.heap.size w w' → Calls Tryd.prog 15 #[.string s] w' (NumB (readN s.data.toList) w')) := fun w' hb => implReadDecimal_any s w' hs2 w.heap.size (HE.out.below hb) hb.size
  clear hE
  generalize readN s.data.toList = r at *
  obtain ⟨n, b⟩ := r
  go_enter Tryd.func4, Tryd.ntmps4
  go_wp2_with fail
  refine H1.out.mono ?_
  rintro e w1 ⟨rfl, hb1⟩
  go_wp2_with fail
  refine (H2.out _ hb1).mono ?_
  rintro e w2 ⟨rfl, hb2⟩
  have B2 := hb1.trans (hb2.mono hb1.size)
  clear hb1 hb2
  go_wp2
  go_ret
  exact ⟨rfl, B2⟩

end Go.Proofs.YtplioelpmfeabaaDoor
