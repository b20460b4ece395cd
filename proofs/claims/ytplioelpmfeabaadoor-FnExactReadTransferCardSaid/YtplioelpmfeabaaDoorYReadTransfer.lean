/- The law ReadTransfer. -/
import Derived.Test.YtplioelpmfeabaaDoorUe
namespace Go.Proofs.YtplioelpmfeabaaDoor
open Go.RowKit
set_option linter.unusedVariables false
set_option linter.unusedSimpArgs false

set_option maxRecDepth 100000 in
set_option maxHeartbeats 2000000 in
theorem walk_FnExactReadTransfer (s : ByteArray) (w : World) (hs : s.size ≤ maxLen) (hE : RdEnv w.heap.size w) (hM : MaxEnv w.heap.size w) :
    Calls Tryd.prog 11 #[.string s] w fun e w' => e = .returned (.bool true) ∧ Below w.heap.size w w' := by
  unfold maxLen at hs
  by_cases hbig : 1048576 < s.size
  · clear hE hM
    go_enter Tryd.func11, Tryd.ntmps11
    go_wp2
    go_ret
    exact ⟨rfl, Below.refl _ _⟩
  have hs2 : s.size ≤ 1048576 := by omega
  clear hs hbig
  have HE := Lib.hid hE
  have HM := Lib.hid hM
  have SP : Hid (Calls Tryd.prog 40 #[.string s] w (TrIs (trRead s.data.toList) w)) := specReadTransfer_any s w hs2
  have IM : Hid (∀ w', Below w.heap.size w w' → Calls Tryd.prog 41 #[.string s] w' (TrIs (trRead s.data.toList) w')) := fun w' hb => implReadTransfer_any s w' hs2 w.heap.size (HE.out.below hb) (HM.out.below hb) hb.size
  clear hE hM
  generalize trRead s.data.toList = res at *
  have B0 := Below.refl w.heap.size w
  go_enter Tryd.func11, Tryd.ntmps11
  go_wp2_with fail
  refine SP.out.mono ?_
  rintro e w1 ⟨ys, zs, code, A, c, D, d, la, ha, lb, hb, rfl, HR, len, lez, G, K, q1, q2, q3, q4, q5, hb1⟩
  have hr := Lib.hid HR
  clear HR
  have hz1 := hb1.size
  have B1 := nxt B0 hb1 (by omega)
  clear hb1 B0
  have R := Lib.hid (Bx.new w1 A ys.length c D zs.length d 52)
  have hb2 : Below w1.heap.size w1 (w1.alloc (.cells #[.slice A ys.length c, .slice D zs.length d] 52)) := (Below.refl _ _).alloc (Nat.le_refl _) _
  have hy2 : w1.heap.size < (w1.alloc (.cells #[.slice A ys.length c, .slice D zs.length d] 52)).heap.size := by simp
  have hz2 := hb2.size
  replace G := G.below hb2 (by omega)
  replace K := K.below hb2 (by omega)
  have B2 := nxt B1 hb2 (by omega)
  clear hb2 B1
  obtain ⟨e0, e1⟩ := R.out
  go_wp2_with fail
  clear e0 e1
  generalize (w1.alloc (.cells #[.slice A ys.length c, .slice D zs.length d] 52)) = w2 at *
  refine (IM.out _ B2).mono ?_
  rintro e w3 ⟨ysi, zsi, codei, Ai, ci, Di, di, lia, hia, lib, hib, rfl, HRi, leni, lezi, Gi, Ki, qi1, qi2, qi3, qi4, qi5, hb3⟩
  have hri := Lib.hid HRi
  clear HRi
  have hz3 := hb3.size
  replace G := G.below hb3 (by omega)
  replace K := K.below hb3 (by omega)
  replace R := Lib.hid (R.out.below hb3 (by omega))
  have B3 := nxt B2 hb3 (by omega)
  clear hb3 B2
  have Ri := Lib.hid (Bx.new w3 Ai ysi.length ci Di zsi.length di 52)
  have hb4 : Below w3.heap.size w3 (w3.alloc (.cells #[.slice Ai ysi.length ci, .slice Di zsi.length di] 52)) := (Below.refl _ _).alloc (Nat.le_refl _) _
  have hy4 : w3.heap.size < (w3.alloc (.cells #[.slice Ai ysi.length ci, .slice Di zsi.length di] 52)).heap.size := by simp
  have hz4 := hb4.size
  replace G := G.below hb4 (by omega)
  replace K := K.below hb4 (by omega)
  replace Gi := Gi.below hb4 (by omega)
  replace Ki := Ki.below hb4 (by omega)
  replace R := Lib.hid (R.out.below hb4 (by omega))
  have B4 := nxt B3 hb4 (by omega)
  clear hb4 B3
  obtain ⟨hpi, rfl⟩ := Prod.mk.inj (hr.out.trans hri.out.symm)
  obtain ⟨rfl, rfl⟩ := Prod.mk.inj hpi
  clear hri
  obtain ⟨e0, e1⟩ := R.out
  obtain ⟨e2, e3⟩ := Ri.out
  go_wp2_with fail
  clear e0 e1 e2 e3
  generalize (w3.alloc (.cells #[.slice Ai ys.length ci, .slice Di zs.length di] 52)) = w4 at *
  refine (eqTransfer_any _ _ _ _ _ _ _ _ _ _ _ _ _ _ _ Gi.sl Ki.sl G.sl K.sl (by omega) (by omega) (by omega) (by omega) (by omega) (by omega)).mono ?_
  rintro e w5 ⟨rfl, hb5⟩
  have hz5 := hb5.size
  replace G := G.below hb5 (by omega)
  replace K := K.below hb5 (by omega)
  replace Gi := Gi.below hb5 (by omega)
  replace Ki := Ki.below hb5 (by omega)
  replace R := Lib.hid (R.out.below hb5 (by omega))
  replace Ri := Lib.hid (Ri.out.below hb5 (by omega))
  have B5 := nxt B4 hb5 (by omega)
  clear hb5 B4
  obtain ⟨e0, e1⟩ := R.out
  obtain ⟨e2, e3⟩ := Ri.out
  go_wp2_with fail
  clear e0 e1 e2 e3
  refine (markTransfer_any _ _ _ _ _ _ _ _ _ _ _ _ Gi Ki (by omega) (by omega) qi5 (by omega) (by omega) (by omega) (by omega)).mono ?_
  rintro e w6 ⟨rfl, zs6, us6, hzl6, hul6, hmk6, hmu6, M6, N6, hon6⟩
  have hz6 := hon6.size
  have HZL6 := Lib.hid hzl6
  have HUL6 := Lib.hid hul6
  have HMK6 := Lib.hid hmk6
  have HMU6 := Lib.hid hmu6
  clear hzl6 hul6 hmk6 hmu6 Gi Ki
  replace G := G.only2 hon6 (by omega) (by omega)
  replace K := K.only2 hon6 (by omega) (by omega)
  replace R := Lib.hid (R.out.only2 hon6 (by omega) (by omega))
  replace Ri := Lib.hid (Ri.out.only2 hon6 (by omega) (by omega))
  have B6 := B5.trans (hon6.below (B := w.heap.size) (by omega) (by omega) (by omega))
  clear hon6 B5
  obtain ⟨e0, e1⟩ := R.out
  obtain ⟨e2, e3⟩ := Ri.out
  go_wp2_with fail
  clear e0 e1 e2 e3
  refine (heldTransfer_any _ _ _ _ HZL6.out _ _ _ _ HUL6.out _ _ _ _ M6.sl N6.sl (by omega) (by omega) HMK6.out HMU6.out (by omega) (by omega) (by omega) (by omega)).mono ?_
  rintro e w7 ⟨rfl, hb7⟩
  have hz7 := hb7.size
  replace G := G.below hb7 (by omega)
  replace K := K.below hb7 (by omega)
  replace M6 := M6.below hb7 (by omega)
  replace N6 := N6.below hb7 (by omega)
  replace R := Lib.hid (R.out.below hb7 (by omega))
  replace Ri := Lib.hid (Ri.out.below hb7 (by omega))
  have B7 := nxt B6 hb7 (by omega)
  clear hb7 B6
  obtain ⟨e0, e1⟩ := R.out
  obtain ⟨e2, e3⟩ := Ri.out
  go_wp2_with fail
  clear e0 e1 e2 e3
  refine (IM.out _ B7).mono ?_
  rintro e w8 ⟨ysj, zsj, codej, Aj, cj, Dj, dj, lja, hja, ljb, hjb, rfl, HRj, lenj, lezj, Gj, Kj, qj1, qj2, qj3, qj4, qj5, hb8⟩
  have hrj := Lib.hid HRj
  clear HRj
  have hz8 := hb8.size
  replace G := G.below hb8 (by omega)
  replace K := K.below hb8 (by omega)
  replace M6 := M6.below hb8 (by omega)
  replace N6 := N6.below hb8 (by omega)
  replace R := Lib.hid (R.out.below hb8 (by omega))
  replace Ri := Lib.hid (Ri.out.below hb8 (by omega))
  have B8 := nxt B7 hb8 (by omega)
  clear hb8 B7
  have Rj := Lib.hid (Bx.new w8 Aj ysj.length cj Dj zsj.length dj 52)
  have hb9 : Below w8.heap.size w8 (w8.alloc (.cells #[.slice Aj ysj.length cj, .slice Dj zsj.length dj] 52)) := (Below.refl _ _).alloc (Nat.le_refl _) _
  have hy9 : w8.heap.size < (w8.alloc (.cells #[.slice Aj ysj.length cj, .slice Dj zsj.length dj] 52)).heap.size := by simp
  have hz9 := hb9.size
  replace G := G.below hb9 (by omega)
  replace K := K.below hb9 (by omega)
  replace M6 := M6.below hb9 (by omega)
  replace N6 := N6.below hb9 (by omega)
  replace Gj := Gj.below hb9 (by omega)
  replace Kj := Kj.below hb9 (by omega)
  replace R := Lib.hid (R.out.below hb9 (by omega))
  replace Ri := Lib.hid (Ri.out.below hb9 (by omega))
  have B9 := nxt B8 hb9 (by omega)
  clear hb9 B8
  obtain ⟨hpj, rfl⟩ := Prod.mk.inj (hr.out.trans hrj.out.symm)
  obtain ⟨rfl, rfl⟩ := Prod.mk.inj hpj
  clear hrj
  obtain ⟨e0, e1⟩ := R.out
  obtain ⟨e2, e3⟩ := Ri.out
  obtain ⟨e4, e5⟩ := Rj.out
  go_wp2_with fail
  clear e0 e1 e2 e3 e4 e5
  generalize (w8.alloc (.cells #[.slice Aj ys.length cj, .slice Dj zs.length dj] 52)) = w9 at *
  refine (eqTransfer_any _ _ _ _ _ _ _ _ _ _ _ _ _ _ _ Gj.sl Kj.sl G.sl K.sl (by omega) (by omega) (by omega) (by omega) (by omega) (by omega)).mono ?_
  rintro e w10 ⟨rfl, hb10⟩
  have hz10 := hb10.size
  replace G := G.below hb10 (by omega)
  replace K := K.below hb10 (by omega)
  replace M6 := M6.below hb10 (by omega)
  replace N6 := N6.below hb10 (by omega)
  replace Gj := Gj.below hb10 (by omega)
  replace Kj := Kj.below hb10 (by omega)
  replace R := Lib.hid (R.out.below hb10 (by omega))
  replace Ri := Lib.hid (Ri.out.below hb10 (by omega))
  replace Rj := Lib.hid (Rj.out.below hb10 (by omega))
  have B10 := nxt B9 hb10 (by omega)
  clear hb10 B9
  obtain ⟨e0, e1⟩ := R.out
  obtain ⟨e2, e3⟩ := Ri.out
  obtain ⟨e4, e5⟩ := Rj.out
  go_wp2_with fail
  clear e0 e1 e2 e3 e4 e5
  refine (heldTransfer_any _ _ _ _ HZL6.out _ _ _ _ HUL6.out _ _ _ _ M6.sl N6.sl (by omega) (by omega) HMK6.out HMU6.out (by omega) (by omega) (by omega) (by omega)).mono ?_
  rintro e w11 ⟨rfl, hb11⟩
  have hz11 := hb11.size
  replace G := G.below hb11 (by omega)
  replace K := K.below hb11 (by omega)
  replace M6 := M6.below hb11 (by omega)
  replace N6 := N6.below hb11 (by omega)
  replace Gj := Gj.below hb11 (by omega)
  replace Kj := Kj.below hb11 (by omega)
  replace R := Lib.hid (R.out.below hb11 (by omega))
  replace Ri := Lib.hid (Ri.out.below hb11 (by omega))
  replace Rj := Lib.hid (Rj.out.below hb11 (by omega))
  have B11 := nxt B10 hb11 (by omega)
  clear hb11 B10
  obtain ⟨e0, e1⟩ := R.out
  obtain ⟨e2, e3⟩ := Ri.out
  obtain ⟨e4, e5⟩ := Rj.out
  go_wp2
  go_ret
  exact ⟨rfl, B11⟩

end Go.Proofs.YtplioelpmfeabaaDoor
