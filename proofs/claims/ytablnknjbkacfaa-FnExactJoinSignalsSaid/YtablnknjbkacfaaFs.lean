/- How a slice of slices of int64 that came in is read. -/
import Derived.Test.YtablnknjbkacfaaFr
import Derived.Test.YtablnknjbkacfaaJa
import Derived.Deep.Matrix
namespace Go.Proofs.Ytablnknjbkacfaa
open Go.ChangeShapes Go.WideShapes Go.ChangeAt Go.RowKit
set_option linter.unusedVariables false
set_option linter.unusedSimpArgs false

theorem spot_none {W : World} {a : Addr} {v : Value} (h : W.cell? (a.add 0) = some v) : a = ⟨a.block, a.off, none⟩ := by
  obtain ⟨b, off, spot⟩ := a
  have hspot : spot = none := by simpa [Addr.add] using World.cell?_spot h
  rw [hspot]
theorem add_flat (b off k : Nat) : (⟨b, off, none⟩ : Addr).add k = ⟨b, off + k, none⟩ := by unfold Addr.add; split <;> simp_all

theorem intss_of_trod {H : Type} {enc : TypeId × Value → H} {P : Program} {W : World} {t e q : TypeId} {m : Nat} {a : Option Addr} {l c : Nat} {y : DataW H × List MemPlace}
    (ht : P.underlying t = some (.slice e)) (he : P.underlying e = some (.slice q)) (hq : P.underlying q = some (.int .i64)) (ce : P.cellsOf e = 1) (cq : P.cellsOf q = 1)
    (h : DataW.trod enc P W 0 (fun _ => true) true m t [.slice a l c] = some y) : ∃ R : Nat → Row, SS W W.heap.size a l R ∧ l ≤ maxLen := by
  rcases Deep.open_int_rows ht he hq ce cq h with ⟨hcs, _⟩ | ⟨x, len, cap, A, L, C, Z, hcs, _, hl, hm, _, hr⟩
  · simp at hcs
    obtain ⟨rfl, rfl, rfl⟩ := hcs
    exact ⟨fun _ => ⟨none, 0, []⟩, ⟨fun h => absurd h (by simp), fun k hk => absurd hk (by simp)⟩, by simp⟩
  · simp at hcs
    obtain ⟨rfl, rfl, rfl⟩ := hcs
    have hlen : ∀ r, r < c → ((Z r).take (L r)).length = L r := fun r hr' => by
      obtain ⟨_, h1, _, h3, _⟩ := hr r hr'
      rw [List.length_take, h3]; omega
    refine ⟨fun r => ⟨A r, C r, (Z r).take (L r)⟩, ⟨fun hp => ?_, fun k hk => ?_⟩, by omega⟩
    · have h0 := (hr 0 (by omega)).1
      have hx := spot_none h0
      refine ⟨x.block, x.off, by rw [← hx], ?_, fun k hk => ?_⟩
      · have := World.block_lt_of_cell? W _ h0
        simpa [Addr.add] using this
      · have hk' := (hr k (by omega)).1
        rw [hx, add_flat] at hk'
        rw [hk']
        unfold rowV
        show some (Value.slice (A k) (L k) (C k)) = some (.slice (A k) ((Z k).take (L k)).length (C k))
        rw [hlen k (by omega)]
    · obtain ⟨_, h1, h2, h3, h4, h5, h6⟩ := hr k (by omega)
      have hlk := hlen k (by omega)
      refine ⟨fun hp => ?_, by show ((Z k).take (L k)).length ≤ C k; omega, h2, fun z hz => i64_of_wf (h4 z (List.mem_of_mem_take hz)), h5⟩
      have hp' : 0 < L k := by
        have : 0 < ((Z k).take (L k)).length := hp
        omega
      rcases hA : A k with _ | a'
      · have := h5 hA
        omega
      · obtain ⟨_, hc⟩ := h6 a' hA
        have hx := spot_none (hc 0 (by omega))
        refine ⟨a'.block, a'.off, by show some a' = _; rw [← hx], ?_, fun j hj => ?_⟩
        · have := World.block_lt_of_cell? W _ (hc 0 (by omega))
          simpa [Addr.add] using this
        · have hj' : j < L k := by
            have : j < ((Z k).take (L k)).length := hj
            omega
          have hcj := hc j (by omega)
          rw [hx, add_flat] at hcj
          rw [hcj]
          show some (Value.int .i64 ((Z k).getD j 0)) = some (.int .i64 (((Z k).take (L k)).getD j 0))
          simp [List.getD_eq_getElem?_getD, List.getElem?_take, hj']

end Go.Proofs.Ytablnknjbkacfaa
