/- The frame that every statement of this seat shares: closed facts of the program, and how arguments are read. -/
import Derived.Test.YtplioelpmfeabaaDoorRows
import Derived.Test.YtplioelpmfeabaaDoorMe
import Derived.Test.YtplioelpmfeabaaDoorFa
import Derived.WalkKit
import Derived.ProofKit
import Derived.OpenShut
import Derived.ShutString
import Derived.ChangeOld
import Derived.Below
import Derived.Lib.SmallJoins
namespace Go.Proofs.YtplioelpmfeabaaDoor
open Go.ChangeShapes Go.WideShapes Go.ChangeAt Go.RowKit

theorem own : ownKnob Tryd.prog.godebug = none := by kernel_rfl
theorem laidOut : laidOutB Tryd.prog = true := by kernel_rfl
theorem cellsFrac : Tryd.prog.cellsOf 32 = 2 := by kernel_rfl
theorem cellsTransfer : Tryd.prog.cellsOf 49 = 2 := by kernel_rfl

theorem liftsFinal_ {b : Bool} (h : b = false) : (b == Tryd.prog.liftsFinal) = true := by rw [h, liftsFinal_is]; rfl
theorem make_ {m : Make} (h : m = .cut) : (Tryd.prog.make == some m) = true := by rw [h]; exact make_is
theorem joined_mk {P : Program} {f : FuncId} {fn : Func} {s : ChangeSpec} {c : OpenClaim}
    (h1 : (c.wf (OpenSpec.ofChange s) && laidOutB P && mapsRowed P &&
      fn.params.all (P.readableRec ·) && namedTie P c.named s.vars &&
      (c.stops == []) && (P.stops == []) && (c.knobs == []) && (P.stopKnobs == []) &&
      (c.inPlace == P.inPlace f) && (c.unfollowed == P.unfollowed f) && (c.recurses == P.recurses f) && (c.named == P.varsNamed f) &&
      (c.maps == (fn.params.toList ++ s.plain.varTypes P).any (P.mapsRec ·)) && (c.ifaces == (fn.params.toList ++ s.plain.varTypes P).any (P.ifacesRec ·)) && (c.mapsOut == P.mapsAmong fn.resultTypes.toList) &&
      (c.loops == (fn.params.toList ++ s.plain.varTypes P).any (P.loopsFrom ·)) && (c.wideKeys == (fn.params.toList ++ s.plain.varTypes P ++ fn.resultTypes.toList).any (P.wideKeysFrom ·)) &&
      s.vars.all (P.varReadable ·) && fn.resultTypes.all (fun t => P.readableRec t && decide (t < P.types.size)) && (c.ifacesOut == fn.resultTypes.toList.any (P.ifacesRec ·)) && (c.loopsOut == fn.resultTypes.toList.any (P.loopsFrom ·)) && (c.plainKeys == P.plainKeys) && c.shortTexts.isNone && P.stopsHeard) = true)
    (h2 : P.mayEnter = true) (h3 : (c.lifted == P.liftsFinal) = true) (h4 : (P.make == some c.make) = true)
    (h5 : ((c.kinds == (if c.domain.isEmpty then [] else fn.params.toList.map fun t => match P.underlying t with | some (.int k) => some k | _ => none)) && (c.pinned == c.pinnedBy) &&
      (c.veiled == (fn.params.toList ++ s.plain.varTypes P ++ fn.resultTypes.toList).any (P.veiledRec ·)) && c.veiledFits P fn.params.toList (fn.params.toList ++ s.plain.varTypes P ++ fn.resultTypes.toList)) = true) :
    joinedFacts P f fn s c = true := by
  unfold joinedFacts
  rw [h1, h2, h3, h4]
  simp only [Bool.true_and]
  exact h5

theorem i64_of_wf {n : Int} (h : (Lit.int .i64 n).wf = true) : I64 n := by
  simp [Lit.wf, IntKind.min, IntKind.max, IntKind.signed, IntKind.bits] at h
  exact ⟨by omega, by omega⟩

/-- A slice of int64 that came in reads as a list. -/
theorem ints_of_trod {H : Type} {enc : TypeId × Value → H} {P : Program} {W : World} {t e : TypeId} {m : Nat} {a : Option Addr} {l c : Nat} {y : DataW H × List MemPlace}
    (ht : P.underlying t = some (.slice e)) (he : P.underlying e = some (.int .i64)) (hc : P.cellsOf e = 1)
    (h : DataW.trod enc P W 0 (fun _ => true) true m t [.slice a l c] = some y) : ∃ xs : List Int, l = xs.length ∧ SlIn W W.heap.size a c xs := by
  rcases open_ints ht he hc h with ⟨hcs, _⟩ | ⟨x, l', c', zs, hcs, _, hl, hm, hz, _, hcell, hwz⟩
  · simp at hcs
    obtain ⟨rfl, rfl, rfl⟩ := hcs
    exact ⟨[], rfl, by simp [Sl], fun x hx => by simp at hx, by simp, by simp⟩
  · simp at hcs
    obtain ⟨rfl, rfl, rfl⟩ := hcs
    have hzl : zs.length = c := by simpa using hz
    refine ⟨zs.take l, by rw [List.length_take]; omega, ?_, fun x hx => ?_, by rw [List.length_take]; omega, by rw [List.length_take]; omega⟩
    · intro hpos
      have hl0 : 0 < l := by rw [List.length_take] at hpos; omega
      obtain ⟨b, off, spot⟩ := x
      have hc0 := hcell 0 (by omega)
      have hspot : spot = none := by simpa [Addr.add] using World.cell?_spot hc0
      subst hspot
      refine ⟨b, off, rfl, ?_, fun k hk => ?_⟩
      · have := World.block_lt_of_cell? W _ hc0
        simpa [Addr.add] using this
      · have hk' : k < zs.length := by rw [List.length_take] at hk; omega
        have hck := hcell k hk'
        have hadd : (⟨b, off, none⟩ : Addr).add k = ⟨b, off + k, none⟩ := by unfold Addr.add; split <;> simp_all
        rw [hadd] at hck
        rw [hck]
        have hk2 : k < l := by rw [List.length_take] at hk; omega
        simp [List.getD_eq_getElem?_getD, hk2]
    · exact i64_of_wf (hwz x (List.mem_of_mem_take hx))

end Go.Proofs.YtplioelpmfeabaaDoor
