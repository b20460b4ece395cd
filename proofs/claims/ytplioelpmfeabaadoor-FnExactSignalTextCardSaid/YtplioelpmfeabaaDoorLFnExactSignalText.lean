/- The given statement FnExactSignalText, proved: the law's walk (file YSignalText) put into the statement's frame. -/
import Derived.Test.YtplioelpmfeabaaDoorDr
import Derived.Test.YtplioelpmfeabaaDoorYSignalText
namespace Go.Proofs.YtplioelpmfeabaaDoor
open Go.ChangeShapes Go.WideShapes Go.ChangeAt Go.RowKit
open Go.ChangeMaps (open_string shut_string)
open Go.Joins
set_option linter.unusedVariables false
set_option linter.unusedSimpArgs false

set_option maxRecDepth 100000 in
theorem fnExactSignalText_met (os : Os) (args : Array Value) : laidMetH Tryd.prog Rows.fnExactSignalTextRow.laid ((World.doorLaid Tryd.prog 72 os).forCall (fun _ _ => 0) ⟨#[], args, []⟩).memory :=
  laidMetH_of_parts3 (fuel := 8) (laidMet_of_run' 8 (by kernel_rfl) (by kernel_rfl)) (by kernel_rfl) (by kernel_rfl)

set_option maxRecDepth 100000 in
theorem fnExactSignalText_lifted (os : Os) (started : os.Started) (H : Type) (enc : TypeId × Value → H) :
    ReturnsInHanded {} Tryd.checked os 8 .any (fun w args => (Rows.fnExactSignalTextSpec.pre enc Tryd.prog Tryd.f8 Rows.fnExactSignalTextRow.domain false w args ∧ laidMetH Tryd.prog Rows.fnExactSignalTextRow.laid w) ∧ sizedMet enc Tryd.prog Tryd.f8 (OpenSpec.ofChange Rows.fnExactSignalTextSpec) false w args) (Rows.fnExactSignalTextSpec.post enc Tryd.prog Tryd.f8 false true false false) := by
  refine returnsInHanded_both (C := Tryd.checked) (X := (fun w _ => laidMetH Tryd.prog Rows.fnExactSignalTextRow.laid w)) (fun _ _ _ hh h => h.of_heap hh) own started (by kernel_rfl) Tryd.func8
    (ChangeSpec.witness_shaped (enc := enc) (C := Tryd.checked) (os := os) (X := (fun w _ => laidMetH Tryd.prog Rows.fnExactSignalTextRow.laid w)) false (World.doorLaid Tryd.prog 72 os) #[.slice none 0 0] 8 rfl (World.shaped_of_RefB (by kernel_rfl) (by kernel_rfl)) (by kernel_rfl) (by kernel_rfl) (by kernel_rfl) (fnExactSignalText_met os _)) ?_
  intro W base args ds gs before hval0 hW hsh0 hL0
  have hsh : W.ShapedOpen Tryd.prog := hsh0
  have hL : laidMetH Tryd.prog Rows.fnExactSignalTextRow.laid W := hL0
  rw [MakeChecks.laidMetH_plain _ _ _ (by kernel_rfl)] at hL
  have hval : ∀ (j : Nat) t v, Tryd.f8.params[j]? = some t → args[j]? = some v → Value.okWide Tryd.prog W .any base t v := hval0
  have hW' := hW
  obtain ⟨p, q, hA0, hV, rfl, hfz, hnd⟩ := hW
  have hA : DataW.TrodAll enc Tryd.prog W 0 (fun _ => true) true Tryd.f8.params.toList args.toList ds p := hA0
  rw [Tryd.params8] at hA hval
  obtain ⟨v0, vs0, d0, ds0, p0, q0, hargs, rfl, rfl, h0, r0⟩ := trodAll_cons hA
  obtain ⟨rfl, rfl, rfl⟩ := trodAll_nil r0
  obtain rfl : args = #[v0] := by cases args; simp_all
  obtain ⟨rfl, rfl⟩ := trodVars_none hV
  have k0 := h0
  have lt0 : ∀ x ∈ p0, x.block < W.heap.size := by obtain ⟨m, hm⟩ := k0; exact DataW.trod_lt m _ _ _ hm
  obtain ⟨a0, l0, c0, rfl⟩ := okWide_slice Tryd.underlying40 (hval 0 40 v0 rfl rfl)
  obtain ⟨m0, hf0⟩ := h0
  obtain ⟨z0, rfl, w0⟩ := ints_of_trod Tryd.underlying40 Tryd.underlying2 (by kernel_rfl) hf0
  clear hA0 hval0 hsh0 hL0
  have hP := pow_of hL.tail.tail
  refine (walk_FnExactSignalText a0 c0 z0 W w0 hP).mono fun e W' ⟨he, bel⟩ => ?_
  subst he
  exact ⟨_, rfl, _, _, _, [], _, [], hW', trodAll_mk1 (shut_bool Tryd.underlying4 _), (trodAll_cons_mk (Below.trod laidOut (by kernel_rfl) (of_decide_eq_true (by kernel_rfl)) k0 bel lt0) trodAll_mk0), rfl, bel.frame _, fun h => by cases h⟩

theorem fnExactSignalText_over : Rows.fnExactSignalTextRow.holds Tryd.pinned (OpenSpec.ofChange Rows.fnExactSignalTextSpec) :=
  OpenClaim.holds_of_wide 8 Tryd.f8 rfl rfl rfl rfl rfl rfl rfl ⟨rfl, rfl, rfl, rfl, rfl⟩ rfl rfl rfl rfl rfl (by kernel_rfl) Tryd.func8 (joined_mk (by kernel_rfl) mayEnter_ (liftsFinal_ rfl) (make_ rfl) (by kernel_rfl))
    (of_decide_eq_true (by kernel_rfl)) (by unfold Func.isWrapper; first | (rw [if_pos (by decide +kernel)]; kernel_rfl) | (rw [if_neg (by decide +kernel)]; exact ⟨rfl, rfl⟩))
    (fun os started H enc _ => fnExactSignalText_lifted os started H enc)

/-- The given statement: the tied card. -/
theorem fnExactSignalText_holds : Rows.FnExactSignalTextCardSaid :=
  Claim7.holds_tied_plain_at .later [] [.data, .data, .data] true (true, "d5470bb5f7de74e66d295ad4cc98dbe0abaaf367d4cd7ac2645f4a32ff90d870") true
    fnExactSignalText_over (fun _ h => by cases h) (by kernel_rfl) (fun _ h => by cases h) fnExactSignalText_row_tie rfl ⟨rfl, rfl⟩ (by kernel_rfl) rfl
    (fun f fn hf hfn => by
      obtain rfl : f = 8 := Option.some.inj ((show Tryd.prog.funcNamed Rows.fnExactSignalTextRow.func = some 8 by kernel_rfl).symm.trans hf) |>.symm
      obtain rfl : fn = Tryd.f8 := (Option.some.inj (Tryd.func8.symm.trans hfn)).symm
      exact ⟨by kernel_rfl, fun j t ht => by
        rw [Tryd.params8] at ht
        have hm : t ∈ [40] := by simpa using Array.mem_of_getElem? ht
        have hall : ([40].all fun u => !Tryd.prog.wantsStandIn u) = true := by kernel_rfl
        exact (show Tryd.prog.wantsStandIn t = false by simpa using List.all_eq_true.1 hall t hm)⟩)
    (by kernel_rfl)

end Go.Proofs.YtplioelpmfeabaaDoor
