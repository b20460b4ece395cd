/- The given statement FnExactEqualTransfers, proved: the law's walk (file YEqualTransfers) put into the statement's frame. -/
import Derived.Test.YtfgdkecmhgkpfaaFr
import Derived.Test.YtfgdkecmhgkpfaaYEqualTransfers
namespace Go.Proofs.Ytfgdkecmhgkpfaa
open Go.ChangeShapes Go.WideShapes Go.ChangeAt Go.RowKit
open Go.ChangeMaps (open_string shut_string)
open Go.Joins
set_option linter.unusedVariables false
set_option linter.unusedSimpArgs false

set_option maxRecDepth 100000 in
theorem fnExactEqualTransfers_lifted (os : Os) (started : os.Started) (H : Type) (enc : TypeId × Value → H) :
    ReturnsInHanded {} Try.checked os 3 .any (Rows.fnExactEqualTransfersSpec.pre6 enc Try.prog Try.f3 Rows.fnExactEqualTransfersRow.domain false) (Rows.fnExactEqualTransfersSpec.post enc Try.prog Try.f3 false true false false) := by
  refine returnsInHanded_of_change (C := Try.checked) own started (by kernel_rfl) Try.func3
    (ChangeSpec.witness6 (enc := enc) (C := Try.checked) false ⟨#[], #[.agg #[.slice none 0 0, .slice none 0 0], .agg #[.slice none 0 0, .slice none 0 0]], []⟩ 8 (by kernel_rfl) (by kernel_rfl) (by kernel_rfl) (by kernel_rfl)) ?_
  intro W base args ds gs before hval0 hW hcnd _
  have hval : ∀ (j : Nat) t v, Try.f3.params[j]? = some t → args[j]? = some v → Value.okWide Try.prog W .any base t v := hval0
  have hW' := hW
  obtain ⟨p, q, hA0, hV, rfl, hfz, hnd⟩ := hW
  have hA : DataW.TrodAll enc Try.prog W 0 (fun _ => true) true Try.f3.params.toList args.toList ds p := hA0
  rw [Try.params3] at hA hval
  obtain ⟨v0, vs0, d0, ds0, p0, q0, hargs, rfl, rfl, h0, r0⟩ := trodAll_cons hA
  obtain ⟨v1, vs1, d1, ds1, p1, q1, rfl, rfl, rfl, h1, r1⟩ := trodAll_cons r0
  obtain ⟨rfl, rfl, rfl⟩ := trodAll_nil r1
  obtain rfl : args = #[v0, v1] := by cases args; simp_all
  obtain ⟨rfl, rfl⟩ := trodVars_none hV
  have k0 := h0
  have lt0 : ∀ x ∈ p0, x.block < W.heap.size := by obtain ⟨m, hm⟩ := k0; exact DataW.trod_lt m _ _ _ hm
  obtain ⟨c00, c01, y00, y01, m0, rfl, rfl, rfl, z00, z01⟩ := open_agg2 Try.underlying24 (by kernel_rfl) cellsTransfer (hval 0 24 v0 rfl rfl) h0
  obtain ⟨a00, l00, b00, e00⟩ := Joins.slice_form Try.underlying22 z00
  simp at e00
  subst e00
  obtain ⟨x00, rfl, w00⟩ := ints_of_trod Try.underlying22 Try.underlying2 (by kernel_rfl) z00
  obtain ⟨a01, l01, b01, e01⟩ := Joins.slice_form Try.underlying22 z01
  simp at e01
  subst e01
  obtain ⟨x01, rfl, w01⟩ := ints_of_trod Try.underlying22 Try.underlying2 (by kernel_rfl) z01
  have k1 := h1
  have lt1 : ∀ x ∈ p1, x.block < W.heap.size := by obtain ⟨m, hm⟩ := k1; exact DataW.trod_lt m _ _ _ hm
  obtain ⟨c10, c11, y10, y11, m1, rfl, rfl, rfl, z10, z11⟩ := open_agg2 Try.underlying24 (by kernel_rfl) cellsTransfer (hval 1 24 v1 rfl rfl) h1
  obtain ⟨a10, l10, b10, e10⟩ := Joins.slice_form Try.underlying22 z10
  simp at e10
  subst e10
  obtain ⟨x10, rfl, w10⟩ := ints_of_trod Try.underlying22 Try.underlying2 (by kernel_rfl) z10
  obtain ⟨a11, l11, b11, e11⟩ := Joins.slice_form Try.underlying22 z11
  simp at e11
  subst e11
  obtain ⟨x11, rfl, w11⟩ := ints_of_trod Try.underlying22 Try.underlying2 (by kernel_rfl) z11
  clear hA0 hval0
  refine (walk_FnExactEqualTransfers a00 b00 x00 a01 b01 x01 a10 b10 x10 a11 b11 x11 W w00 w01 w10 w11).mono fun e W' ⟨he, bel⟩ => ?_
  subst he
  exact ⟨_, rfl, _, _, _, [], _, [], hW', trodAll_mk1 (shut_bool Try.underlying4 _), (trodAll_cons_mk (Below.trod laidOut (by kernel_rfl) (of_decide_eq_true (by kernel_rfl)) k0 bel lt0) (trodAll_cons_mk (Below.trod laidOut (by kernel_rfl) (of_decide_eq_true (by kernel_rfl)) k1 bel lt1) trodAll_mk0)), rfl, bel.frame _, fun h => by cases h⟩

theorem fnExactEqualTransfers_over : Rows.fnExactEqualTransfersRow.holds Try.pinned (OpenSpec.ofChange Rows.fnExactEqualTransfersSpec) :=
  OpenClaim.holds_of_wide 3 Try.f3 rfl rfl rfl rfl rfl rfl rfl ⟨rfl, rfl, rfl, rfl, rfl⟩ rfl rfl rfl rfl rfl (by kernel_rfl) Try.func3 (joined_mk (by kernel_rfl) mayEnter_ (liftsFinal_ rfl) (make_ rfl) (by kernel_rfl))
    (of_decide_eq_true (by kernel_rfl)) (by unfold Func.isWrapper; first | (rw [if_pos (by decide +kernel)]; kernel_rfl) | (rw [if_neg (by decide +kernel)]; exact ⟨rfl, rfl⟩))
    (fun os started H enc _ => fnExactEqualTransfers_lifted os started H enc)

/-- The given statement. -/
theorem fnExactEqualTransfers_holds : Rows.FnExactEqualTransfersSaid := fnExactEqualTransfers_over

end Go.Proofs.Ytfgdkecmhgkpfaa
