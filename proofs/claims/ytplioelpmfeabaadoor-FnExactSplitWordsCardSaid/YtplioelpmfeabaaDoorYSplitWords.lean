/- The law SplitWords. -/
import Derived.Test.YtplioelpmfeabaaDoorQj
namespace Go.Proofs.YtplioelpmfeabaaDoor
open Go.RowKit
set_option linter.unusedVariables false
set_option linter.unusedSimpArgs false

set_option maxHeartbeats 2000000 in
theorem walk_FnExactSplitWords (s : ByteArray) (w : World) (hs : s.size ≤ maxLen) (hM : MaxEnv w.heap.size w) :
    Calls Tryd.prog 5 #[.string s] w fun e w' => e = .returned (.bool true) ∧ Below w.heap.size w w' := by
  unfold maxLen at hs
  by_cases hb : 1048576 < s.size
  · clear hM
    go_enter Tryd.func5, Tryd.ntmps5
    go_wp2
    go_ret
    exact ⟨rfl, Below.refl _ _⟩
  have hs2 : s.size ≤ 1048576 := by omega
  clear hs hb
  have HE := Lib.hid hM
  have H1 := Lib.hid (specSplitWords_any s w hs2)
  have H2 : Hid (∀ w', Below w.heap.size w w' → Calls Tryd.prog 17 #[.string s] w' (FreshG 9 (strV (words s.data.toList)) w')) := fun w' hb => implSplitWords_any s w' hs2 w.heap.size (HE.out.below hb) hb.size
  have hlen : (words s.data.toList).length ≤ 1048577 := by have := words_length s.data.toList; rw [← Lib.size_eq] at this; omega
  clear hM
  generalize words s.data.toList = ws at *
  have HN : Hid ((strV ws).length = ws.length) := strV_length ws
  go_enter Tryd.func5, Tryd.ntmps5
  have B0 := Below.refl w.heap.size w
  go_wp2_with fail
  refine H1.out.mono ?_
  rintro e w1 ⟨A, c, rfl, G, hb1⟩
  rw [HN.out]
  have hz1 := hb1.size
  have B1 := nxt B0 hb1 (by omega)
  clear hb1 B0
  go_wp2_with fail
  refine (H2.out _ B1).mono ?_
  rintro e w2 ⟨Ai, ci, rfl, Gi, hb2⟩
  rw [HN.out]
  have hz2 := hb2.size
  replace G := G.below hb2 (by omega)
  have B2 := nxt B1 hb2 (by omega)
  clear hb2 B1
  go_wp2_with fail
  refine (eqStrs_any _ _ _ _ _ _ _ _ Gi.sl G.sl (by omega)).mono ?_
  rintro e w3 ⟨rfl, hb3⟩
  have hz3 := hb3.size
  replace G := G.below hb3 (by omega)
  replace Gi := Gi.below hb3 (by omega)
  have B3 := nxt B2 hb3 (by omega)
  clear hb3 B2
  go_wp2_with fail
  refine (markStrs_any _ _ _ _ _ _ _ Gi (by omega) (by omega) (by omega)).mono ?_
  rintro e w4 ⟨rfl, zs, hzl, hmk, M, hon⟩
  have hz4 := hon.size
  have HZL := Lib.hid hzl
  have HMK := Lib.hid hmk
  clear hzl hmk Gi
  replace G := G.only hon (by omega)
  have B4 := B3.trans (hon.below (B := w.heap.size) (by omega) (by omega))
  clear hon B3
  go_wp2_with fail
  refine (heldStrs_any _ _ _ _ _ _ M.sl (by omega) HMK.out _ HZL.out.symm (by omega) (by omega) (by omega)).mono ?_
  rintro e w5 ⟨rfl, hb5⟩
  have hz5 := hb5.size
  replace G := G.below hb5 (by omega)
  replace M := M.below hb5 (by omega)
  have B5 := nxt B4 hb5 (by omega)
  clear hb5 B4
  go_wp2_with fail
  refine (H2.out _ B5).mono ?_
  rintro e w6 ⟨Aj, cj, rfl, Gj, hb6⟩
  rw [HN.out]
  have hz6 := hb6.size
  replace G := G.below hb6 (by omega)
  replace M := M.below hb6 (by omega)
  have B6 := nxt B5 hb6 (by omega)
  clear hb6 B5
  go_wp2_with fail
  refine (eqStrs_any _ _ _ _ _ _ _ _ Gj.sl G.sl (by omega)).mono ?_
  rintro e w7 ⟨rfl, hb7⟩
  have hz7 := hb7.size
  replace M := M.below hb7 (by omega)
  have B7 := nxt B6 hb7 (by omega)
  clear hb7 B6
  go_wp2_with fail
  refine (heldStrs_any _ _ _ _ _ _ M.sl (by omega) HMK.out _ HZL.out.symm (by omega) (by omega) (by omega)).mono ?_
  rintro e w8 ⟨rfl, hb8⟩
  have B8 := nxt B7 hb8 (by omega)
  go_wp2
  go_ret
  exact ⟨rfl, B8⟩

end Go.Proofs.YtplioelpmfeabaaDoor
