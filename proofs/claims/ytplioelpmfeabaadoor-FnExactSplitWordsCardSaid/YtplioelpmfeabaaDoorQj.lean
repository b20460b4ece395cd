/- Walks: are the marks held; the law SplitWords. -/
import Derived.Test.YtplioelpmfeabaaDoorQi
namespace Go.Proofs.YtplioelpmfeabaaDoor
open Go.RowKit
set_option linter.unusedVariables false
set_option linter.unusedSimpArgs false

/-- What stays while a mark is made: the cell that is compared. -/
def HeldS (w0 : World) (a : Addr) (v : Value) (w : World) : Prop := Below w0.heap.size w0 w ∧ w.cell? a = some v
theorem HeldS.start {w0 : World} {a : Addr} {v : Value} (h : w0.cell? a = some v) : HeldS w0 a v w0 := ⟨Below.refl _ _, h⟩
theorem HeldS.drew {w0 w : World} {a : Addr} {v : Value} (h : HeldS w0 a v w) : HeldS w0 a v w.drew := ⟨h.1.drew, h.2⟩
theorem HeldS.call {w0 w w' : World} {a : Addr} {v : Value} (h : HeldS w0 a v w) (ha : a.block < w0.heap.size) (hb : Below w.heap.size w w') : HeldS w0 a v w' :=
  ⟨h.1.trans (hb.mono h.1.size), (hb.cell (p := a) (Nat.lt_of_lt_of_le ha h.1.size)).trans h.2⟩

set_option maxRecDepth 100000 in
set_option maxHeartbeats 2000000 in
theorem heldStrs_any (A : Option Addr) (c : Nat) (ls : List (List UInt8)) (k : Int) (w : World) (B : Nat) (h : SlG w B A (strV ls)) (hB : B ≤ w.heap.size) (hm : MarkedS k ls) (n : Nat) (hn : n = ls.length) (hl : n ≤ 1048577) (hk : 1 ≤ k) (hk' : k ≤ 1048576) :
    Calls Tryd.prog 20 #[.slice A n c, .int .i64 k] w fun e w' => e = .returned (.int .i64 (k + n)) ∧ Below w.heap.size w w' := by
  have HS := Lib.hid h
  have HM := Lib.hid hm
  have HN := Lib.hid hn
  clear h hm hn
  go_enter Tryd.func20, Tryd.ntmps20
  go_wp2
  go_loopw [1, 5] (fun s i wr => ∃ j : Nat, j ≤ n ∧ i = .int .i64 j ∧ s = .int .i64 (k + j) ∧ Below w.heap.size w wr) (fun _ i _ => n - (intOf i).toNat)
  case atStart => exact ⟨0, by omega, rfl, by simp, Below.refl _ _⟩
  case round =>
    obtain ⟨j, hj, rfl, rfl, hbr⟩ := hrel
    by_cases hlt : j < n
    · obtain ⟨b, o, rfl, hb, hcell⟩ := HS.out (by rw [strV_length, ← HN.out]; omega)
      have e0 := hcell j (by rw [strV_length, ← HN.out]; exact hlt)
      rw [strV_get ls j (by rw [← HN.out]; exact hlt), HM.out j (by rw [← HN.out]; exact hlt)] at e0
      have hbw : b < wr.heap.size := Nat.lt_of_lt_of_le (Nat.lt_of_lt_of_le hb hB) hbr.size
      have e1 : wr.cell? ⟨b, o + j, none⟩ = some (.string (str (markT (k + j)))) := (hbr.cell (p := ⟨b, o + j, none⟩) (by exact Nat.lt_of_lt_of_le hb hB)).trans e0
      clear hcell e0
      have MT : Hid (∀ w', Calls Tryd.prog 51 #[.int .i64 (k + j)] w' (StrIs (markT (k + j)) w')) := fun w' => markText_any _ _ (by omega) (by omega)
      generalize markT (k + j) = q at *
      have HB := Lib.hid hbw
      clear hbw
      go_wp2
      go_region_held3 (fun w' => Below wr.heap.size wr w' ∧ w'.cell? ⟨b, o + j, none⟩ = some (.string (str q)))
        ((first | assumption | (refine Hid.out ?_; assumption) | (exact HeldS.start e1) | (exact HeldS.drew (HeldS.start e1)) | (refine HeldS.drew ?_; assumption)))
        ((go_at_call 51; refine (MT.out _).mono ?_; rintro e w1 ⟨rfl, hbk⟩; have hS := Lib.hid (HeldS.call (w0 := wr) (a := ⟨b, o + j, none⟩) (v := .string (str q)) (by (first | assumption | exact HeldS.start e1)) HB.out hbk); clear hbk))
      all_goals
        rename_i hHeld
        have hbl := hbr.trans (hHeld.1.mono hbr.size)
        clear hHeld
        go_wp2
        go_roundw
        case rel => exact ⟨j + 1, by omega, by go_num, by go_num, hbl⟩
        case measure => simp [intOf]; omega
    · have hjn : j = n := by omega
      have HJ := Lib.hid hjn
      clear hjn
      go_wp2
      go_ret
      exact ⟨ret_int (by rw [HJ.out]), hbr⟩

end Go.Proofs.YtplioelpmfeabaaDoor
