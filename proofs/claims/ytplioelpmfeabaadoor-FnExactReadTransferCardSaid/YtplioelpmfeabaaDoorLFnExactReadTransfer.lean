/- The given statement FnExactReadTransfer, proved: the law's walk (file YReadTransfer) put into the statement's frame. -/
import Derived.Test.YtplioelpmfeabaaDoorDr
import Derived.Test.YtplioelpmfeabaaDoorYReadTransfer
namespace Go.Proofs.YtplioelpmfeabaaDoor
open Go.ChangeShapes Go.WideShapes Go.ChangeAt Go.RowKit
open Go.ChangeMaps (open_string shut_string)
open Go.Joins
set_option linter.unusedVariables false
set_option linter.unusedSimpArgs false

set_option maxRecDepth 100000 in
theorem fnExactReadTransfer_met (os : Os) (args : Array Value) : laidMetH Tryd.prog Rows.fnExactReadTransferRow.laid ((startW os).forCall (fun _ _ => 0) ⟨#[], args, []⟩).memory :=
  laidMetH_of_parts3 (fuel := 8) (laidMet_of_run' 8 (by kernel_rfl) (by kernel_rfl)) (by kernel_rfl) (by kernel_rfl)

set_option maxRecDepth 100000 in
theorem fnExactReadTransfer_lifted (os : Os) (started : os.Started) (H : Type) (enc : TypeId × Value → H) :
    ReturnsInHanded {} Tryd.checked os 11 .any (fun w args => (Rows.fnExactReadTransferSpec.pre enc Tryd.prog Tryd.f11 Rows.fnExactReadTransferRow.domain false w args ∧ laidMetH Tryd.prog Rows.fnExactReadTransferRow.laid w) ∧ sizedMet enc Tryd.prog Tryd.f11 (OpenSpec.ofChange Rows.fnExactReadTransferSpec) false w args) (Rows.fnExactReadTransferSpec.post enc Tryd.prog Tryd.f11 false true false false) := by
  refine returnsInHanded_both (C := Tryd.checked) (X := (fun w _ => laidMetH Tryd.prog Rows.fnExactReadTransferRow.laid w)) (fun _ _ _ hh h => h.of_heap hh) own started (by kernel_rfl) Tryd.func11
    (ChangeSpec.witness_shaped (enc := enc) (C := Tryd.checked) (os := os) (X := (fun w _ => laidMetH Tryd.prog Rows.fnExactReadTransferRow.laid w)) false (startW os) #[.string ByteArray.empty] 8 rfl (World.shaped_of_RefB (by kernel_rfl) (by kernel_rfl)) (by kernel_rfl) (by kernel_rfl) (by kernel_rfl) (fnExactReadTransfer_met os _)) ?_
  intro W base args ds gs before hval0 hW hsh0 hL0
  have hsh : W.ShapedOpen Tryd.prog := hsh0
  have hL : laidMetH Tryd.prog Rows.fnExactReadTransferRow.laid W := hL0
  rw [MakeChecks.laidMetH_plain _ _ _ (by kernel_rfl)] at hL
  have hval : ∀ (j : Nat) t v, Tryd.f11.params[j]? = some t → args[j]? = some v → Value.okWide Tryd.prog W .any base t v := hval0
  have hW' := hW
  obtain ⟨p, q, hA0, hV, rfl, hfz, hnd⟩ := hW
  have hA : DataW.TrodAll enc Tryd.prog W 0 (fun _ => true) true Tryd.f11.params.toList args.toList ds p := hA0
  rw [Tryd.params11] at hA hval
  obtain ⟨v0, vs0, d0, ds0, p0, q0, hargs, rfl, rfl, h0, r0⟩ := trodAll_cons hA
  obtain ⟨rfl, rfl, rfl⟩ := trodAll_nil r0
  obtain rfl : args = #[v0] := by cases args; simp_all
  obtain ⟨rfl, rfl⟩ := trodVars_none hV
  have k0 := h0
  have lt0 : ∀ x ∈ p0, x.block < W.heap.size := by obtain ⟨m, hm⟩ := k0; exact DataW.trod_lt m _ _ _ hm
  obtain ⟨a0, rfl, rfl, rfl, w0⟩ := open_string Tryd.underlying9 (hval 0 9 v0 rfl rfl) h0
  clear hA0 hval0 hsh0 hL0
  have hR := rdEnv_of hL.tail.tail hL.tail.tail.tail.tail hL.tail.tail.tail.tail.tail
  have hM := maxLen_of hsh
  refine (walk_FnExactReadTransfer a0 W w0 hR hM).mono fun e W' ⟨he, bel⟩ => ?_
  subst he
  exact ⟨_, rfl, _, _, _, [], _, [], hW', trodAll_mk1 (shut_bool Tryd.underlying4 _), (trodAll_cons_mk (Below.trod laidOut (by kernel_rfl) (of_decide_eq_true (by kernel_rfl)) k0 bel lt0) trodAll_mk0), rfl, bel.frame _, fun h => by cases h⟩

theorem fnExactReadTransfer_over : Rows.fnExactReadTransferRow.holds Tryd.pinned (OpenSpec.ofChange Rows.fnExactReadTransferSpec) :=
  OpenClaim.holds_of_wide 11 Tryd.f11 rfl rfl rfl rfl rfl rfl rfl ⟨rfl, rfl, rfl, rfl, rfl⟩ rfl rfl rfl rfl rfl (by kernel_rfl) Tryd.func11 (joined_mk (by kernel_rfl) mayEnter_ (liftsFinal_ rfl) (make_ rfl) (by kernel_rfl))
    (of_decide_eq_true (by kernel_rfl)) (by unfold Func.isWrapper; first | (rw [if_pos (by decide +kernel)]; kernel_rfl) | (rw [if_neg (by decide +kernel)]; exact ⟨rfl, rfl⟩))
    (fun os started H enc _ => fnExactReadTransfer_lifted os started H enc)

/-- The given statement: the tied card. -/
theorem fnExactReadTransfer_holds : Rows.FnExactReadTransferCardSaid :=
  Claim7.holds_tied_plain_at .later [] [.data, .data, .data, .data, .sentinel, .sentinel, .pinned] true (true, "d5470bb5f7de74e66d295ad4cc98dbe0abaaf367d4cd7ac2645f4a32ff90d870") true
    fnExactReadTransfer_over (fun _ h => by cases h) (by kernel_rfl) (fun _ h => by cases h) fnExactReadTransfer_row_tie rfl ⟨rfl, rfl⟩ (by kernel_rfl) rfl
    (fun f fn hf hfn => by
      obtain rfl : f = 11 := Option.some.inj ((show Tryd.prog.funcNamed Rows.fnExactReadTransferRow.func = some 11 by kernel_rfl).symm.trans hf) |>.symm
      obtain rfl : fn = Tryd.f11 := (Option.some.inj (Tryd.func11.symm.trans hfn)).symm
      exact ⟨by kernel_rfl, fun j t ht => by
        rw [Tryd.params11] at ht
        have hm : t ∈ [9] := by simpa using Array.mem_of_getElem? ht
        have hall : ([9].all fun u => !Tryd.prog.wantsStandIn u) = true := by kernel_rfl
        exact (show Tryd.prog.wantsStandIn t = false by simpa using List.all_eq_true.1 hall t hm)⟩)
    (by kernel_rfl)

end Go.Proofs.YtplioelpmfeabaaDoor
