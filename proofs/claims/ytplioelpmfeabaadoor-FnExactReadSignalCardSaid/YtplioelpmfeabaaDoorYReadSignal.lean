/- The law ReadSignal. -/
import Derived.Test.YtplioelpmfeabaaDoorQn
namespace Go.Proofs.YtplioelpmfeabaaDoor
open Go.RowKit
set_option linter.unusedVariables false
set_option linter.unusedSimpArgs false

theorem sigRead_len (l : List UInt8) : (sigRead l).1.length ≤ 4000 := by
  unfold sigRead
  split
  · rename_i h
    exact (sigB_inv h.2.1).1
  · simp

set_option maxHeartbeats 2000000 in
theorem walk_FnExactReadSignal (s : ByteArray) (w : World) (hs : s.size ≤ maxLen) (hE : RdEnv w.heap.size w) (hM : MaxEnv w.heap.size w) :
    Calls Tryd.prog 9 #[.string s] w fun e w' => e = .returned (.bool true) ∧ Below w.heap.size w w' := by
  unfold maxLen at hs
  by_cases hb : 1048576 < s.size
  · clear hE hM
    go_enter Tryd.func9, Tryd.ntmps9
    go_wp2
    go_ret
    exact ⟨rfl, Below.refl _ _⟩
  have hs2 : s.size ≤ 1048576 := by omega
  clear hs hb
  have HE := Lib.hid hE
  have HM := Lib.hid hM
  have H1 := Lib.hid (specReadSignal_any s w hs2)
  have H2 : Hid (∀ w', Below w.heap.size w w' → Calls Tryd.prog 32 #[.string s] w' (NumsIs (sigRead s.data.toList) w')) := fun w' hb => implReadSignal_any s w' hs2 w.heap.size (HE.out.below hb) (HM.out.below hb) hb.size
  have hlen := sigRead_len s.data.toList
  clear hE hM
  generalize sigRead s.data.toList = r at *
  obtain ⟨ys, ok⟩ := r
  have hlen2 : ys.length ≤ 4000 := hlen
  clear hlen
  go_enter Tryd.func9, Tryd.ntmps9
  have B0 := Below.refl w.heap.size w
  go_wp2_with fail
  refine H1.out.mono ?_
  rintro e w1 ⟨A, c, rfl, G, hb1⟩
  have hz1 := hb1.size
  have B1 := nxt B0 hb1 (by omega)
  clear hb1 B0
  go_wp2_with fail
  refine (H2.out _ B1).mono ?_
  rintro e w2 ⟨Ai, ci, rfl, Gi, hb2⟩
  have hz2 := hb2.size
  replace G := G.below hb2 (by omega)
  have B2 := nxt B1 hb2 (by omega)
  clear hb2 B1
  go_wp2_with fail
  refine (eqBel_any _ _ _ _ ys _ _ _ Gi.sl G.sl (by omega)).mono ?_
  rintro e w3 ⟨rfl, hb3⟩
  have hz3 := hb3.size
  replace G := G.below hb3 (by omega)
  replace Gi := Gi.below hb3 (by omega)
  have B3 := nxt B2 hb3 (by omega)
  clear hb3 B2
  go_wp2_with fail
  refine (mark_any _ _ ys _ _ _ _ Gi (by omega) (by omega) (by omega)).mono ?_
  rintro e w4 ⟨rfl, zs, hzl, hmk, M, hon⟩
  have hz4 := hon.size
  have HZL := Lib.hid hzl
  have HMK := Lib.hid hmk
  clear hzl hmk Gi
  replace G := G.only hon (by omega)
  have B4 := B3.trans (hon.below (B := w.heap.size) (by omega) (by omega))
  clear hon B3
  go_wp2_with fail
  refine (heldN_any _ _ _ _ HZL.out _ _ _ M.sl HMK.out (by omega) (by omega) (by omega)).mono ?_
  rintro e wh ⟨rfl, rfl⟩
  go_wp2_with fail
  refine (H2.out _ B4).mono ?_
  rintro e w6 ⟨Aj, cj, rfl, Gj, hb6⟩
  have hz6 := hb6.size
  replace G := G.below hb6 (by omega)
  replace M := M.below hb6 (by omega)
  have B6 := nxt B4 hb6 (by omega)
  clear hb6 B4
  go_wp2_with fail
  refine (eqBel_any _ _ _ _ ys _ _ _ Gj.sl G.sl (by omega)).mono ?_
  rintro e w7 ⟨rfl, hb7⟩
  have hz7 := hb7.size
  replace M := M.below hb7 (by omega)
  have B7 := nxt B6 hb7 (by omega)
  clear hb7 B6
  go_wp2_with fail
  refine (heldN_any _ _ _ _ HZL.out _ _ _ M.sl HMK.out (by omega) (by omega) (by omega)).mono ?_
  rintro e wh ⟨rfl, rfl⟩
  go_wp2
  go_ret
  exact ⟨rfl, B7⟩

end Go.Proofs.YtplioelpmfeabaaDoor
