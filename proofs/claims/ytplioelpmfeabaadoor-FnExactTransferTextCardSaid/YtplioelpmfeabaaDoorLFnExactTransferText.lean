/- The given statement FnExactTransferText, proved: the law's walk (file YTransferText) put into the statement's frame. -/
import Derived.Test.YtplioelpmfeabaaDoorDr
import Derived.Test.YtplioelpmfeabaaDoorYTransferText
namespace Go.Proofs.YtplioelpmfeabaaDoor
open Go.ChangeShapes Go.WideShapes Go.ChangeAt Go.RowKit
open Go.ChangeMaps (open_string shut_string)
open Go.Joins
set_option linter.unusedVariables false
set_option linter.unusedSimpArgs false

set_option maxRecDepth 100000 in
theorem fnExactTransferText_met (os : Os) (args : Array Value) : laidMetH Tryd.prog Rows.fnExactTransferTextRow.laid ((World.doorLaid Tryd.prog 72 os).forCall (fun _ _ => 0) ⟨#[], args, []⟩).memory :=
  laidMetH_of_parts3 (fuel := 8) (laidMet_of_run' 8 (by kernel_rfl) (by kernel_rfl)) (by kernel_rfl) (by kernel_rfl)

set_option maxRecDepth 100000 in
theorem fnExactTransferText_lifted (os : Os) (started : os.Started) (H : Type) (enc : TypeId × Value → H) :
    ReturnsInHanded {} Tryd.checked os 10 .any (fun w args => (Rows.fnExactTransferTextSpec.pre enc Tryd.prog Tryd.f10 Rows.fnExactTransferTextRow.domain false w args ∧ laidMetH Tryd.prog Rows.fnExactTransferTextRow.laid w) ∧ sizedMet enc Tryd.prog Tryd.f10 (OpenSpec.ofChange Rows.fnExactTransferTextSpec) false w args) (Rows.fnExactTransferTextSpec.post enc Tryd.prog Tryd.f10 false true false false) := by
  refine returnsInHanded_both (C := Tryd.checked) (X := (fun w _ => laidMetH Tryd.prog Rows.fnExactTransferTextRow.laid w)) (fun _ _ _ hh h => h.of_heap hh) own started (by kernel_rfl) Tryd.func10
    (ChangeSpec.witness_shaped (enc := enc) (C := Tryd.checked) (os := os) (X := (fun w _ => laidMetH Tryd.prog Rows.fnExactTransferTextRow.laid w)) false (World.doorLaid Tryd.prog 72 os) #[.agg #[.slice none 0 0, .slice none 0 0]] 8 rfl (World.shaped_of_RefB (by kernel_rfl) (by kernel_rfl)) (by kernel_rfl) (by kernel_rfl) (by kernel_rfl) (fnExactTransferText_met os _)) ?_
  intro W base args ds gs before hval0 hW hsh0 hL0
  have hsh : W.ShapedOpen Tryd.prog := hsh0
  have hL : laidMetH Tryd.prog Rows.fnExactTransferTextRow.laid W := hL0
  rw [MakeChecks.laidMetH_plain _ _ _ (by kernel_rfl)] at hL
  have hval : ∀ (j : Nat) t v, Tryd.f10.params[j]? = some t → args[j]? = some v → Value.okWide Tryd.prog W .any base t v := hval0
  have hW' := hW
  obtain ⟨p, q, hA0, hV, rfl, hfz, hnd⟩ := hW
  have hA : DataW.TrodAll enc Tryd.prog W 0 (fun _ => true) true Tryd.f10.params.toList args.toList ds p := hA0
  rw [Tryd.params10] at hA hval
  obtain ⟨v0, vs0, d0, ds0, p0, q0, hargs, rfl, rfl, h0, r0⟩ := trodAll_cons hA
  obtain ⟨rfl, rfl, rfl⟩ := trodAll_nil r0
  obtain rfl : args = #[v0] := by cases args; simp_all
  obtain ⟨rfl, rfl⟩ := trodVars_none hV
  have k0 := h0
  have lt0 : ∀ x ∈ p0, x.block < W.heap.size := by obtain ⟨m, hm⟩ := k0; exact DataW.trod_lt m _ _ _ hm
  obtain ⟨c00, c01, y00, y01, m0, rfl, rfl, rfl, z00, z01⟩ := open_agg2 Tryd.underlying49 (by kernel_rfl) cellsTransfer (hval 0 49 v0 rfl rfl) h0
  obtain ⟨a00, l00, b00, e00⟩ := Joins.slice_form Tryd.underlying40 z00
  simp at e00
  subst e00
  obtain ⟨x00, rfl, w00⟩ := ints_of_trod Tryd.underlying40 Tryd.underlying2 (by kernel_rfl) z00
  obtain ⟨a01, l01, b01, e01⟩ := Joins.slice_form Tryd.underlying40 z01
  simp at e01
  subst e01
  obtain ⟨x01, rfl, w01⟩ := ints_of_trod Tryd.underlying40 Tryd.underlying2 (by kernel_rfl) z01
  clear hA0 hval0 hsh0 hL0
  have hP := pow_of hL.tail.tail
  refine (walk_FnExactTransferText a00 b00 x00 a01 b01 x01 W w00 w01 hP).mono fun e W' ⟨he, bel⟩ => ?_
  subst he
  exact ⟨_, rfl, _, _, _, [], _, [], hW', trodAll_mk1 (shut_bool Tryd.underlying4 _), (trodAll_cons_mk (Below.trod laidOut (by kernel_rfl) (of_decide_eq_true (by kernel_rfl)) k0 bel lt0) trodAll_mk0), rfl, bel.frame _, fun h => by cases h⟩

theorem fnExactTransferText_over : Rows.fnExactTransferTextRow.holds Tryd.pinned (OpenSpec.ofChange Rows.fnExactTransferTextSpec) :=
  OpenClaim.holds_of_wide 10 Tryd.f10 rfl rfl rfl rfl rfl rfl rfl ⟨rfl, rfl, rfl, rfl, rfl⟩ rfl rfl rfl rfl rfl (by kernel_rfl) Tryd.func10 (joined_mk (by kernel_rfl) mayEnter_ (liftsFinal_ rfl) (make_ rfl) (by kernel_rfl))
    (of_decide_eq_true (by kernel_rfl)) (by unfold Func.isWrapper; first | (rw [if_pos (by decide +kernel)]; kernel_rfl) | (rw [if_neg (by decide +kernel)]; exact ⟨rfl, rfl⟩))
    (fun os started H enc _ => fnExactTransferText_lifted os started H enc)

/-- The given statement: the tied card. -/
theorem fnExactTransferText_holds : Rows.FnExactTransferTextCardSaid :=
  Claim7.holds_tied_plain_at .later [] [.data, .data, .data] true (true, "d5470bb5f7de74e66d295ad4cc98dbe0abaaf367d4cd7ac2645f4a32ff90d870") true
    fnExactTransferText_over (fun _ h => by cases h) (by kernel_rfl) (fun _ h => by cases h) fnExactTransferText_row_tie rfl ⟨rfl, rfl⟩ (by kernel_rfl) rfl
    (fun f fn hf hfn => by
      obtain rfl : f = 10 := Option.some.inj ((show Tryd.prog.funcNamed Rows.fnExactTransferTextRow.func = some 10 by kernel_rfl).symm.trans hf) |>.symm
      obtain rfl : fn = Tryd.f10 := (Option.some.inj (Tryd.func10.symm.trans hfn)).symm
      exact ⟨by kernel_rfl, fun j t ht => by
        rw [Tryd.params10] at ht
        have hm : t ∈ [49] := by simpa using Array.mem_of_getElem? ht
        have hall : ([49].all fun u => !Tryd.prog.wantsStandIn u) = true := by kernel_rfl
        exact (show Tryd.prog.wantsStandIn t = false by simpa using List.all_eq_true.1 hall t hm)⟩)
    (by kernel_rfl)

end Go.Proofs.YtplioelpmfeabaaDoor
