/- Laws over two fractions: sum, difference, product, quotient, mediant. -/
import Derived.Test.YtiobdgnhfecjnaaWh
import Derived.Test.YtiobdgnhfecjnaaWj
import Derived.Test.YtiobdgnhfecjnaaWc
import Derived.Deep.RegionHeld3
import Derived.Deep.DeepCutAuto
namespace Go.Proofs.Ytiobdgnhfecjnaa
open Go.RowKit
set_option linter.unusedVariables false

/-- The two boxed arguments, in a world W0. -/
def Boxed (w W0 : World) (a b c d : Int) : Prop := W0.cell? ⟨w.heap.size, 0, none⟩ = some (.int .i64 a) ∧ W0.cell? ⟨w.heap.size, 1, none⟩ = some (.int .i64 b) ∧ W0.cell? ⟨w.heap.size + 1, 0, none⟩ = some (.int .i64 c) ∧ W0.cell? ⟨w.heap.size + 1, 1, none⟩ = some (.int .i64 d)
theorem Boxed.start (w : World) (a b c d : Int) : Boxed w ((w.alloc (.cells #[.int .i64 a, .int .i64 b] 23)).alloc (.cells #[.int .i64 c, .int .i64 d] 23)) a b c d := by
  refine ⟨?_, ?_, ?_, ?_⟩ <;> go_simp
theorem bx_keep {w W0 w' : World} {a b c d : Int} (HE : Hid (Boxed w W0 a b c d)) (h : Below W0.heap.size W0 w') : Below W0.heap.size W0 w' ∧ w'.cell? ⟨w.heap.size, 0, none⟩ = some (.int .i64 a) ∧ w'.cell? ⟨w.heap.size, 1, none⟩ = some (.int .i64 b) ∧ w'.cell? ⟨w.heap.size + 1, 0, none⟩ = some (.int .i64 c) ∧ w'.cell? ⟨w.heap.size + 1, 1, none⟩ = some (.int .i64 d) := by
  obtain ⟨e0, e1, e2, e3⟩ := HE.out
  refine ⟨h, ?_, ?_, ?_, ?_⟩
  · exact (h.cell (p := ⟨w.heap.size, 0, none⟩) (World.block_lt_of_cell? W0 _ e0)).trans e0
  · exact (h.cell (p := ⟨w.heap.size, 1, none⟩) (World.block_lt_of_cell? W0 _ e1)).trans e1
  · exact (h.cell (p := ⟨w.heap.size + 1, 0, none⟩) (World.block_lt_of_cell? W0 _ e2)).trans e2
  · exact (h.cell (p := ⟨w.heap.size + 1, 1, none⟩) (World.block_lt_of_cell? W0 _ e3)).trans e3
theorem bx_call {w W0 w0 w1 : World} {a b c d : Int} (HE : Hid (Boxed w W0 a b c d)) (h : Below W0.heap.size W0 w0 ∧ w0.cell? ⟨w.heap.size, 0, none⟩ = some (.int .i64 a) ∧ w0.cell? ⟨w.heap.size, 1, none⟩ = some (.int .i64 b) ∧ w0.cell? ⟨w.heap.size + 1, 0, none⟩ = some (.int .i64 c) ∧ w0.cell? ⟨w.heap.size + 1, 1, none⟩ = some (.int .i64 d)) (hb : Below w0.heap.size w0 w1) :
    Below W0.heap.size W0 w1 ∧ w1.cell? ⟨w.heap.size, 0, none⟩ = some (.int .i64 a) ∧ w1.cell? ⟨w.heap.size, 1, none⟩ = some (.int .i64 b) ∧ w1.cell? ⟨w.heap.size + 1, 0, none⟩ = some (.int .i64 c) ∧ w1.cell? ⟨w.heap.size + 1, 1, none⟩ = some (.int .i64 d) := bx_keep HE (nxt h.1 hb h.1.size)
theorem bx_alloc {w W0 w0 : World} {a b c d : Int} (HE : Hid (Boxed w W0 a b c d)) (h : Below W0.heap.size W0 w0 ∧ w0.cell? ⟨w.heap.size, 0, none⟩ = some (.int .i64 a) ∧ w0.cell? ⟨w.heap.size, 1, none⟩ = some (.int .i64 b) ∧ w0.cell? ⟨w.heap.size + 1, 0, none⟩ = some (.int .i64 c) ∧ w0.cell? ⟨w.heap.size + 1, 1, none⟩ = some (.int .i64 d)) (o : Obj) :
    Below W0.heap.size W0 (w0.alloc o) ∧ (w0.alloc o).cell? ⟨w.heap.size, 0, none⟩ = some (.int .i64 a) ∧ (w0.alloc o).cell? ⟨w.heap.size, 1, none⟩ = some (.int .i64 b) ∧ (w0.alloc o).cell? ⟨w.heap.size + 1, 0, none⟩ = some (.int .i64 c) ∧ (w0.alloc o).cell? ⟨w.heap.size + 1, 1, none⟩ = some (.int .i64 d) := bx_keep HE (h.1.alloc h.1.size o)
theorem bx_set {w W0 w0 : World} {a b c d : Int} (HE : Hid (Boxed w W0 a b c d)) (h : Below W0.heap.size W0 w0 ∧ w0.cell? ⟨w.heap.size, 0, none⟩ = some (.int .i64 a) ∧ w0.cell? ⟨w.heap.size, 1, none⟩ = some (.int .i64 b) ∧ w0.cell? ⟨w.heap.size + 1, 0, none⟩ = some (.int .i64 c) ∧ w0.cell? ⟨w.heap.size + 1, 1, none⟩ = some (.int .i64 d)) (p : Addr) (v : Value) (hp : W0.heap.size ≤ p.block) :
    Below W0.heap.size W0 (w0.setCell p v) ∧ (w0.setCell p v).cell? ⟨w.heap.size, 0, none⟩ = some (.int .i64 a) ∧ (w0.setCell p v).cell? ⟨w.heap.size, 1, none⟩ = some (.int .i64 b) ∧ (w0.setCell p v).cell? ⟨w.heap.size + 1, 0, none⟩ = some (.int .i64 c) ∧ (w0.setCell p v).cell? ⟨w.heap.size + 1, 1, none⟩ = some (.int .i64 d) := bx_keep HE (h.1.setCell hp v)
theorem Boxed.of {w W0 w' : World} {a b c d : Int} (h : Below W0.heap.size W0 w' ∧ w'.cell? ⟨w.heap.size, 0, none⟩ = some (.int .i64 a) ∧ w'.cell? ⟨w.heap.size, 1, none⟩ = some (.int .i64 b) ∧ w'.cell? ⟨w.heap.size + 1, 0, none⟩ = some (.int .i64 c) ∧ w'.cell? ⟨w.heap.size + 1, 1, none⟩ = some (.int .i64 d)) : Boxed w w' a b c d := h.2

/-- A result lies in a block of its own, above W0's. -/
def Got (w W0 : World) (n d code : Int) (s5 s6 : Value) (wx : World) : Prop :=
  ∃ g : Nat, s5 = .pointer (some ⟨g, 0, none⟩) ∧ s6 = .int .i64 code ∧ W0.heap.size ≤ g ∧ g < wx.heap.size ∧ wx.cell? ⟨g, 0, none⟩ = some (.int .i64 n) ∧ wx.cell? ⟨g, 1, none⟩ = some (.int .i64 d) ∧ Below W0.heap.size W0 wx
theorem Got.mk {w W0 wx : World} {a b c d x y code : Int} (g : Nat) (h1 : W0.heap.size ≤ g) (h2 : wx.cell? ⟨g, 0, none⟩ = some (.int .i64 x)) (h3 : wx.cell? ⟨g, 1, none⟩ = some (.int .i64 y)) (h4 : Below W0.heap.size W0 wx ∧ wx.cell? ⟨w.heap.size, 0, none⟩ = some (.int .i64 a) ∧ wx.cell? ⟨w.heap.size, 1, none⟩ = some (.int .i64 b) ∧ wx.cell? ⟨w.heap.size + 1, 0, none⟩ = some (.int .i64 c) ∧ wx.cell? ⟨w.heap.size + 1, 1, none⟩ = some (.int .i64 d)) :
    Got w W0 x y code (.pointer (some ⟨g, 0, none⟩)) (.int .i64 code) wx := ⟨g, rfl, rfl, h1, World.block_lt_of_cell? wx _ h2, h2, h3, h4.1⟩

set_option maxHeartbeats 4000000 in
theorem walk_FnExactAddFrac (a b c d : Int) (w : World) (ha : I64 a) (hb : I64 b) (hc : I64 c) (hd : I64 d) : Calls Try.prog 4 #[.agg #[.int .i64 a, .int .i64 b], .agg #[.int .i64 c, .int .i64 d]] w fun e w' => e = .returned (.bool true) ∧ Below w.heap.size w w' := by
  have HE := Lib.hid (Boxed.start w a b c d)
  have hbel : Below w.heap.size w ((w.alloc (.cells #[.int .i64 a, .int .i64 b] 23)).alloc (.cells #[.int .i64 c, .int .i64 d] 23)) := by (repeat (first | exact Below.refl _ _ | assumption | refine Below.setCell ?_ (by (try simp) <;> omega) _ | refine Below.alloc ?_ (by (try simp) <;> omega) _ | refine below_drewN_ ?_ | refine Below.drew ?_))
  have hsz : w.heap.size + 2 ≤ ((w.alloc (.cells #[.int .i64 a, .int .i64 b] 23)).alloc (.cells #[.int .i64 c, .int .i64 d] 23)).heap.size := by simp
  go_enter Try.func4, Try.ntmps4
  go_upto_region 1 with fail
  generalize ((w.alloc (.cells #[.int .i64 a, .int .i64 b] 23)).alloc (.cells #[.int .i64 c, .int .i64 d] 23)) = W0 at *
  go_cut [5, 6] (fun s5 s6 wx => Got w W0 (opN (okF2 a b c d) (a*d+c*b) (b*d)) (opD (okF2 a b c d) (a*d+c*b) (b*d)) (opC (okF2 a b c d) (a*d+c*b) (b*d)) s5 s6 wx)
  case first =>
    go_region_held3 (fun w' => Below W0.heap.size W0 w' ∧ w'.cell? ⟨w.heap.size, 0, none⟩ = some (.int .i64 a) ∧ w'.cell? ⟨w.heap.size, 1, none⟩ = some (.int .i64 b) ∧ w'.cell? ⟨w.heap.size + 1, 0, none⟩ = some (.int .i64 c) ∧ w'.cell? ⟨w.heap.size + 1, 1, none⟩ = some (.int .i64 d))
      ((first | (first | assumption | (refine Hid.out ?_; assumption)) | (exact bx_keep HE (Below.drew (Below.refl _ _))) | (exact bx_keep HE (Below.drew (Below.alloc (Below.refl _ _) (Nat.le_refl _) _))) | (refine bx_alloc HE ?_ _; (first | assumption | (refine Hid.out ?_; assumption))) | (refine bx_set HE (bx_set HE ?_ _ _ ?_) _ _ ?_; ((first | assumption | (refine Hid.out ?_; assumption))); ((try simp) <;> omega); ((try simp) <;> omega)) | (refine bx_set HE ?_ _ _ ?_; ((first | assumption | (refine Hid.out ?_; assumption))); ((try simp) <;> omega))))
      ((first | (go_at_call 13; refine (toFrac_any _ _ _).mono ?_; rintro e w1 ⟨rfl, hbk⟩; have hS := Lib.hid (bx_call HE (by assumption) hbk); obtain ⟨hc1, hf1⟩ := bcell hbk; have hz0 := fun b h => Nat.lt_of_lt_of_le (n := b) h hbk.size; have hz1 := hbk.size; (try simp at hz1); (try have hq1 : W0.heap.size < w1.heap.size := by omega); clear hbk) | (go_at_call 15; refine (sAdd_any _ _ _ _ _ ha hb hc hd).mono ?_; rintro e w1 ⟨rfl, hbk⟩; have hS := Lib.hid (bx_call HE (by assumption) hbk); obtain ⟨hc1, hf1⟩ := bcell hbk; have hz0 := fun b h => Nat.lt_of_lt_of_le (n := b) h hbk.size; have hz1 := hbk.size; (try simp at hz1); (try have hq1 : W0.heap.size < w1.heap.size := by omega); clear hbk)))
    all_goals
      go_wp2_with fail
      go_meet
      refine Got.mk (a := a) (b := b) (c := c) (d := d) _ ?_ ?_ ?_ ?_
      · ((try simp) <;> omega)
      · simp (maxDischargeDepth := 8) [*, go_sem]
      · simp (maxDischargeDepth := 8) [*, go_sem]
      · assumption
  case rest =>
    obtain ⟨g, rfl, rfl, hg0, hg1, q0, q1, hbw⟩ := hcut
    have hbel1 := nxt hbel hbw (by omega)
    have HF := Lib.hid (Boxed.of (bx_keep HE hbw))
    rename World => W1
    have hsz1 : w.heap.size + 2 ≤ W1.heap.size := by have := hbw.size; omega
    go_upto_region 2 with fail
    go_cut [7, 8] (fun s7 s8 wx => Got w W1 (opN (okF2 a b c d) (a*d+c*b) (b*d)) (opD (okF2 a b c d) (a*d+c*b) (b*d)) (opC (okF2 a b c d) (a*d+c*b) (b*d)) s7 s8 wx)
    case first =>
      go_region_held3 (fun w' => Below W1.heap.size W1 w' ∧ w'.cell? ⟨w.heap.size, 0, none⟩ = some (.int .i64 a) ∧ w'.cell? ⟨w.heap.size, 1, none⟩ = some (.int .i64 b) ∧ w'.cell? ⟨w.heap.size + 1, 0, none⟩ = some (.int .i64 c) ∧ w'.cell? ⟨w.heap.size + 1, 1, none⟩ = some (.int .i64 d))
        ((first | (first | assumption | (refine Hid.out ?_; assumption)) | (exact bx_keep HF (Below.drew (Below.refl _ _))) | (exact bx_keep HF (Below.drew (Below.alloc (Below.refl _ _) (Nat.le_refl _) _))) | (refine bx_alloc HF ?_ _; (first | assumption | (refine Hid.out ?_; assumption))) | (refine bx_set HF (bx_set HF ?_ _ _ ?_) _ _ ?_; ((first | assumption | (refine Hid.out ?_; assumption))); ((try simp) <;> omega); ((try simp) <;> omega)) | (refine bx_set HF ?_ _ _ ?_; ((first | assumption | (refine Hid.out ?_; assumption))); ((try simp) <;> omega))))
        ((first | (go_at_call 13; refine (toFrac_any _ _ _).mono ?_; rintro e w1 ⟨rfl, hbk⟩; have hS := Lib.hid (bx_call HF (by assumption) hbk); obtain ⟨hc1, hf1⟩ := bcell hbk; have hz0 := fun b h => Nat.lt_of_lt_of_le (n := b) h hbk.size; have hz1 := hbk.size; (try simp at hz1); (try have hq1 : W1.heap.size < w1.heap.size := by omega); clear hbk) | (go_at_call 16; refine (implAdd_any _ _ _ _ _ ha hb hc hd).mono ?_; rintro e w1 ⟨rfl, hbk⟩; have hS := Lib.hid (bx_call HF (by assumption) hbk); obtain ⟨hc1, hf1⟩ := bcell hbk; have hz0 := fun b h => Nat.lt_of_lt_of_le (n := b) h hbk.size; have hz1 := hbk.size; (try simp at hz1); (try have hq1 : W1.heap.size < w1.heap.size := by omega); clear hbk)))
      all_goals
        go_wp2_with fail
        go_meet
        refine Got.mk (a := a) (b := b) (c := c) (d := d) _ ?_ ?_ ?_ ?_
        · ((try simp) <;> omega)
        · simp (maxDischargeDepth := 8) [*, go_sem]
        · simp (maxDischargeDepth := 8) [*, go_sem]
        · assumption
    case rest =>
      obtain ⟨g2, rfl, rfl, hg20, hg21, q20, q21, hbw2⟩ := hcut
      have q0' := (hbw2.cell (p := ⟨g, 0, none⟩) hg1).trans q0
      have q1' := (hbw2.cell (p := ⟨g, 1, none⟩) hg1).trans q1
      have hbel2 := nxt hbel1 hbw2 (by omega)
      have hsz2 := hbw2.size
      clear q0 q1
      go_wp2_with fail
      refine (eqFrac_any _ _ _).mono ?_
      rintro e w3 ⟨rfl, hb3⟩
      go_wp2
      go_ret
      exact ⟨rfl, nxt hbel2 hb3 (by omega)⟩
set_option maxHeartbeats 4000000 in
theorem walk_FnExactSubFrac (a b c d : Int) (w : World) (ha : I64 a) (hb : I64 b) (hc : I64 c) (hd : I64 d) : Calls Try.prog 7 #[.agg #[.int .i64 a, .int .i64 b], .agg #[.int .i64 c, .int .i64 d]] w fun e w' => e = .returned (.bool true) ∧ Below w.heap.size w w' := by
  have HE := Lib.hid (Boxed.start w a b c d)
  have hbel : Below w.heap.size w ((w.alloc (.cells #[.int .i64 a, .int .i64 b] 23)).alloc (.cells #[.int .i64 c, .int .i64 d] 23)) := by (repeat (first | exact Below.refl _ _ | assumption | refine Below.setCell ?_ (by (try simp) <;> omega) _ | refine Below.alloc ?_ (by (try simp) <;> omega) _ | refine below_drewN_ ?_ | refine Below.drew ?_))
  have hsz : w.heap.size + 2 ≤ ((w.alloc (.cells #[.int .i64 a, .int .i64 b] 23)).alloc (.cells #[.int .i64 c, .int .i64 d] 23)).heap.size := by simp
  go_enter Try.func7, Try.ntmps7
  go_upto_region 1 with fail
  generalize ((w.alloc (.cells #[.int .i64 a, .int .i64 b] 23)).alloc (.cells #[.int .i64 c, .int .i64 d] 23)) = W0 at *
  go_cut [5, 6] (fun s5 s6 wx => Got w W0 (opN (okF2 a b c d) (a*d-c*b) (b*d)) (opD (okF2 a b c d) (a*d-c*b) (b*d)) (opC (okF2 a b c d) (a*d-c*b) (b*d)) s5 s6 wx)
  case first =>
    go_region_held3 (fun w' => Below W0.heap.size W0 w' ∧ w'.cell? ⟨w.heap.size, 0, none⟩ = some (.int .i64 a) ∧ w'.cell? ⟨w.heap.size, 1, none⟩ = some (.int .i64 b) ∧ w'.cell? ⟨w.heap.size + 1, 0, none⟩ = some (.int .i64 c) ∧ w'.cell? ⟨w.heap.size + 1, 1, none⟩ = some (.int .i64 d))
      ((first | (first | assumption | (refine Hid.out ?_; assumption)) | (exact bx_keep HE (Below.drew (Below.refl _ _))) | (exact bx_keep HE (Below.drew (Below.alloc (Below.refl _ _) (Nat.le_refl _) _))) | (refine bx_alloc HE ?_ _; (first | assumption | (refine Hid.out ?_; assumption))) | (refine bx_set HE (bx_set HE ?_ _ _ ?_) _ _ ?_; ((first | assumption | (refine Hid.out ?_; assumption))); ((try simp) <;> omega); ((try simp) <;> omega)) | (refine bx_set HE ?_ _ _ ?_; ((first | assumption | (refine Hid.out ?_; assumption))); ((try simp) <;> omega))))
      ((first | (go_at_call 13; refine (toFrac_any _ _ _).mono ?_; rintro e w1 ⟨rfl, hbk⟩; have hS := Lib.hid (bx_call HE (by assumption) hbk); obtain ⟨hc1, hf1⟩ := bcell hbk; have hz0 := fun b h => Nat.lt_of_lt_of_le (n := b) h hbk.size; have hz1 := hbk.size; (try simp at hz1); (try have hq1 : W0.heap.size < w1.heap.size := by omega); clear hbk) | (go_at_call 22; refine (sSub_any _ _ _ _ _ ha hb hc hd).mono ?_; rintro e w1 ⟨rfl, hbk⟩; have hS := Lib.hid (bx_call HE (by assumption) hbk); obtain ⟨hc1, hf1⟩ := bcell hbk; have hz0 := fun b h => Nat.lt_of_lt_of_le (n := b) h hbk.size; have hz1 := hbk.size; (try simp at hz1); (try have hq1 : W0.heap.size < w1.heap.size := by omega); clear hbk)))
    all_goals
      go_wp2_with fail
      go_meet
      refine Got.mk (a := a) (b := b) (c := c) (d := d) _ ?_ ?_ ?_ ?_
      · ((try simp) <;> omega)
      · simp (maxDischargeDepth := 8) [*, go_sem]
      · simp (maxDischargeDepth := 8) [*, go_sem]
      · assumption
  case rest =>
    obtain ⟨g, rfl, rfl, hg0, hg1, q0, q1, hbw⟩ := hcut
    have hbel1 := nxt hbel hbw (by omega)
    have HF := Lib.hid (Boxed.of (bx_keep HE hbw))
    rename World => W1
    have hsz1 : w.heap.size + 2 ≤ W1.heap.size := by have := hbw.size; omega
    go_upto_region 2 with fail
    go_cut [7, 8] (fun s7 s8 wx => Got w W1 (opN (okF2 a b c d) (a*d-c*b) (b*d)) (opD (okF2 a b c d) (a*d-c*b) (b*d)) (opC (okF2 a b c d) (a*d-c*b) (b*d)) s7 s8 wx)
    case first =>
      go_region_held3 (fun w' => Below W1.heap.size W1 w' ∧ w'.cell? ⟨w.heap.size, 0, none⟩ = some (.int .i64 a) ∧ w'.cell? ⟨w.heap.size, 1, none⟩ = some (.int .i64 b) ∧ w'.cell? ⟨w.heap.size + 1, 0, none⟩ = some (.int .i64 c) ∧ w'.cell? ⟨w.heap.size + 1, 1, none⟩ = some (.int .i64 d))
        ((first | (first | assumption | (refine Hid.out ?_; assumption)) | (exact bx_keep HF (Below.drew (Below.refl _ _))) | (exact bx_keep HF (Below.drew (Below.alloc (Below.refl _ _) (Nat.le_refl _) _))) | (refine bx_alloc HF ?_ _; (first | assumption | (refine Hid.out ?_; assumption))) | (refine bx_set HF (bx_set HF ?_ _ _ ?_) _ _ ?_; ((first | assumption | (refine Hid.out ?_; assumption))); ((try simp) <;> omega); ((try simp) <;> omega)) | (refine bx_set HF ?_ _ _ ?_; ((first | assumption | (refine Hid.out ?_; assumption))); ((try simp) <;> omega))))
        ((first | (go_at_call 13; refine (toFrac_any _ _ _).mono ?_; rintro e w1 ⟨rfl, hbk⟩; have hS := Lib.hid (bx_call HF (by assumption) hbk); obtain ⟨hc1, hf1⟩ := bcell hbk; have hz0 := fun b h => Nat.lt_of_lt_of_le (n := b) h hbk.size; have hz1 := hbk.size; (try simp at hz1); (try have hq1 : W1.heap.size < w1.heap.size := by omega); clear hbk) | (go_at_call 23; refine (implSub_any _ _ _ _ _ ha hb hc hd).mono ?_; rintro e w1 ⟨rfl, hbk⟩; have hS := Lib.hid (bx_call HF (by assumption) hbk); obtain ⟨hc1, hf1⟩ := bcell hbk; have hz0 := fun b h => Nat.lt_of_lt_of_le (n := b) h hbk.size; have hz1 := hbk.size; (try simp at hz1); (try have hq1 : W1.heap.size < w1.heap.size := by omega); clear hbk)))
      all_goals
        go_wp2_with fail
        go_meet
        refine Got.mk (a := a) (b := b) (c := c) (d := d) _ ?_ ?_ ?_ ?_
        · ((try simp) <;> omega)
        · simp (maxDischargeDepth := 8) [*, go_sem]
        · simp (maxDischargeDepth := 8) [*, go_sem]
        · assumption
    case rest =>
      obtain ⟨g2, rfl, rfl, hg20, hg21, q20, q21, hbw2⟩ := hcut
      have q0' := (hbw2.cell (p := ⟨g, 0, none⟩) hg1).trans q0
      have q1' := (hbw2.cell (p := ⟨g, 1, none⟩) hg1).trans q1
      have hbel2 := nxt hbel1 hbw2 (by omega)
      have hsz2 := hbw2.size
      clear q0 q1
      go_wp2_with fail
      refine (eqFrac_any _ _ _).mono ?_
      rintro e w3 ⟨rfl, hb3⟩
      go_wp2
      go_ret
      exact ⟨rfl, nxt hbel2 hb3 (by omega)⟩
set_option maxHeartbeats 4000000 in
theorem walk_FnExactMulFrac (a b c d : Int) (w : World) (ha : I64 a) (hb : I64 b) (hc : I64 c) (hd : I64 d) : Calls Try.prog 6 #[.agg #[.int .i64 a, .int .i64 b], .agg #[.int .i64 c, .int .i64 d]] w fun e w' => e = .returned (.bool true) ∧ Below w.heap.size w w' := by
  have HE := Lib.hid (Boxed.start w a b c d)
  have hbel : Below w.heap.size w ((w.alloc (.cells #[.int .i64 a, .int .i64 b] 23)).alloc (.cells #[.int .i64 c, .int .i64 d] 23)) := by (repeat (first | exact Below.refl _ _ | assumption | refine Below.setCell ?_ (by (try simp) <;> omega) _ | refine Below.alloc ?_ (by (try simp) <;> omega) _ | refine below_drewN_ ?_ | refine Below.drew ?_))
  have hsz : w.heap.size + 2 ≤ ((w.alloc (.cells #[.int .i64 a, .int .i64 b] 23)).alloc (.cells #[.int .i64 c, .int .i64 d] 23)).heap.size := by simp
  go_enter Try.func6, Try.ntmps6
  go_upto_region 1 with fail
  generalize ((w.alloc (.cells #[.int .i64 a, .int .i64 b] 23)).alloc (.cells #[.int .i64 c, .int .i64 d] 23)) = W0 at *
  go_cut [5, 6] (fun s5 s6 wx => Got w W0 (opN (okF2 a b c d) (a*c) (b*d)) (opD (okF2 a b c d) (a*c) (b*d)) (opC (okF2 a b c d) (a*c) (b*d)) s5 s6 wx)
  case first =>
    go_region_held3 (fun w' => Below W0.heap.size W0 w' ∧ w'.cell? ⟨w.heap.size, 0, none⟩ = some (.int .i64 a) ∧ w'.cell? ⟨w.heap.size, 1, none⟩ = some (.int .i64 b) ∧ w'.cell? ⟨w.heap.size + 1, 0, none⟩ = some (.int .i64 c) ∧ w'.cell? ⟨w.heap.size + 1, 1, none⟩ = some (.int .i64 d))
      ((first | (first | assumption | (refine Hid.out ?_; assumption)) | (exact bx_keep HE (Below.drew (Below.refl _ _))) | (exact bx_keep HE (Below.drew (Below.alloc (Below.refl _ _) (Nat.le_refl _) _))) | (refine bx_alloc HE ?_ _; (first | assumption | (refine Hid.out ?_; assumption))) | (refine bx_set HE (bx_set HE ?_ _ _ ?_) _ _ ?_; ((first | assumption | (refine Hid.out ?_; assumption))); ((try simp) <;> omega); ((try simp) <;> omega)) | (refine bx_set HE ?_ _ _ ?_; ((first | assumption | (refine Hid.out ?_; assumption))); ((try simp) <;> omega))))
      ((first | (go_at_call 13; refine (toFrac_any _ _ _).mono ?_; rintro e w1 ⟨rfl, hbk⟩; have hS := Lib.hid (bx_call HE (by assumption) hbk); obtain ⟨hc1, hf1⟩ := bcell hbk; have hz0 := fun b h => Nat.lt_of_lt_of_le (n := b) h hbk.size; have hz1 := hbk.size; (try simp at hz1); (try have hq1 : W0.heap.size < w1.heap.size := by omega); clear hbk) | (go_at_call 20; refine (sMul_any _ _ _ _ _ ha hb hc hd).mono ?_; rintro e w1 ⟨rfl, hbk⟩; have hS := Lib.hid (bx_call HE (by assumption) hbk); obtain ⟨hc1, hf1⟩ := bcell hbk; have hz0 := fun b h => Nat.lt_of_lt_of_le (n := b) h hbk.size; have hz1 := hbk.size; (try simp at hz1); (try have hq1 : W0.heap.size < w1.heap.size := by omega); clear hbk)))
    all_goals
      go_wp2_with fail
      go_meet
      refine Got.mk (a := a) (b := b) (c := c) (d := d) _ ?_ ?_ ?_ ?_
      · ((try simp) <;> omega)
      · simp (maxDischargeDepth := 8) [*, go_sem]
      · simp (maxDischargeDepth := 8) [*, go_sem]
      · assumption
  case rest =>
    obtain ⟨g, rfl, rfl, hg0, hg1, q0, q1, hbw⟩ := hcut
    have hbel1 := nxt hbel hbw (by omega)
    have HF := Lib.hid (Boxed.of (bx_keep HE hbw))
    rename World => W1
    have hsz1 : w.heap.size + 2 ≤ W1.heap.size := by have := hbw.size; omega
    go_upto_region 2 with fail
    go_cut [7, 8] (fun s7 s8 wx => Got w W1 (opN (okF2 a b c d) (a*c) (b*d)) (opD (okF2 a b c d) (a*c) (b*d)) (opC (okF2 a b c d) (a*c) (b*d)) s7 s8 wx)
    case first =>
      go_region_held3 (fun w' => Below W1.heap.size W1 w' ∧ w'.cell? ⟨w.heap.size, 0, none⟩ = some (.int .i64 a) ∧ w'.cell? ⟨w.heap.size, 1, none⟩ = some (.int .i64 b) ∧ w'.cell? ⟨w.heap.size + 1, 0, none⟩ = some (.int .i64 c) ∧ w'.cell? ⟨w.heap.size + 1, 1, none⟩ = some (.int .i64 d))
        ((first | (first | assumption | (refine Hid.out ?_; assumption)) | (exact bx_keep HF (Below.drew (Below.refl _ _))) | (exact bx_keep HF (Below.drew (Below.alloc (Below.refl _ _) (Nat.le_refl _) _))) | (refine bx_alloc HF ?_ _; (first | assumption | (refine Hid.out ?_; assumption))) | (refine bx_set HF (bx_set HF ?_ _ _ ?_) _ _ ?_; ((first | assumption | (refine Hid.out ?_; assumption))); ((try simp) <;> omega); ((try simp) <;> omega)) | (refine bx_set HF ?_ _ _ ?_; ((first | assumption | (refine Hid.out ?_; assumption))); ((try simp) <;> omega))))
        ((first | (go_at_call 13; refine (toFrac_any _ _ _).mono ?_; rintro e w1 ⟨rfl, hbk⟩; have hS := Lib.hid (bx_call HF (by assumption) hbk); obtain ⟨hc1, hf1⟩ := bcell hbk; have hz0 := fun b h => Nat.lt_of_lt_of_le (n := b) h hbk.size; have hz1 := hbk.size; (try simp at hz1); (try have hq1 : W1.heap.size < w1.heap.size := by omega); clear hbk) | (go_at_call 21; refine (implMul_any _ _ _ _ _ ha hb hc hd).mono ?_; rintro e w1 ⟨rfl, hbk⟩; have hS := Lib.hid (bx_call HF (by assumption) hbk); obtain ⟨hc1, hf1⟩ := bcell hbk; have hz0 := fun b h => Nat.lt_of_lt_of_le (n := b) h hbk.size; have hz1 := hbk.size; (try simp at hz1); (try have hq1 : W1.heap.size < w1.heap.size := by omega); clear hbk)))
      all_goals
        go_wp2_with fail
        go_meet
        refine Got.mk (a := a) (b := b) (c := c) (d := d) _ ?_ ?_ ?_ ?_
        · ((try simp) <;> omega)
        · simp (maxDischargeDepth := 8) [*, go_sem]
        · simp (maxDischargeDepth := 8) [*, go_sem]
        · assumption
    case rest =>
      obtain ⟨g2, rfl, rfl, hg20, hg21, q20, q21, hbw2⟩ := hcut
      have q0' := (hbw2.cell (p := ⟨g, 0, none⟩) hg1).trans q0
      have q1' := (hbw2.cell (p := ⟨g, 1, none⟩) hg1).trans q1
      have hbel2 := nxt hbel1 hbw2 (by omega)
      have hsz2 := hbw2.size
      clear q0 q1
      go_wp2_with fail
      refine (eqFrac_any _ _ _).mono ?_
      rintro e w3 ⟨rfl, hb3⟩
      go_wp2
      go_ret
      exact ⟨rfl, nxt hbel2 hb3 (by omega)⟩
set_option maxHeartbeats 4000000 in
theorem walk_FnExactMediant (a b c d : Int) (w : World) (ha : I64 a) (hb : I64 b) (hc : I64 c) (hd : I64 d) : Calls Try.prog 5 #[.agg #[.int .i64 a, .int .i64 b], .agg #[.int .i64 c, .int .i64 d]] w fun e w' => e = .returned (.bool true) ∧ Below w.heap.size w w' := by
  have HE := Lib.hid (Boxed.start w a b c d)
  have hbel : Below w.heap.size w ((w.alloc (.cells #[.int .i64 a, .int .i64 b] 23)).alloc (.cells #[.int .i64 c, .int .i64 d] 23)) := by (repeat (first | exact Below.refl _ _ | assumption | refine Below.setCell ?_ (by (try simp) <;> omega) _ | refine Below.alloc ?_ (by (try simp) <;> omega) _ | refine below_drewN_ ?_ | refine Below.drew ?_))
  have hsz : w.heap.size + 2 ≤ ((w.alloc (.cells #[.int .i64 a, .int .i64 b] 23)).alloc (.cells #[.int .i64 c, .int .i64 d] 23)).heap.size := by simp
  go_enter Try.func5, Try.ntmps5
  go_upto_region 1 with fail
  generalize ((w.alloc (.cells #[.int .i64 a, .int .i64 b] 23)).alloc (.cells #[.int .i64 c, .int .i64 d] 23)) = W0 at *
  go_cut [5, 6] (fun s5 s6 wx => Got w W0 (opN (okF2 a b c d) (a+c) (b+d)) (opD (okF2 a b c d) (a+c) (b+d)) (opC (okF2 a b c d) (a+c) (b+d)) s5 s6 wx)
  case first =>
    go_region_held3 (fun w' => Below W0.heap.size W0 w' ∧ w'.cell? ⟨w.heap.size, 0, none⟩ = some (.int .i64 a) ∧ w'.cell? ⟨w.heap.size, 1, none⟩ = some (.int .i64 b) ∧ w'.cell? ⟨w.heap.size + 1, 0, none⟩ = some (.int .i64 c) ∧ w'.cell? ⟨w.heap.size + 1, 1, none⟩ = some (.int .i64 d))
      ((first | (first | assumption | (refine Hid.out ?_; assumption)) | (exact bx_keep HE (Below.drew (Below.refl _ _))) | (exact bx_keep HE (Below.drew (Below.alloc (Below.refl _ _) (Nat.le_refl _) _))) | (refine bx_alloc HE ?_ _; (first | assumption | (refine Hid.out ?_; assumption))) | (refine bx_set HE (bx_set HE ?_ _ _ ?_) _ _ ?_; ((first | assumption | (refine Hid.out ?_; assumption))); ((try simp) <;> omega); ((try simp) <;> omega)) | (refine bx_set HE ?_ _ _ ?_; ((first | assumption | (refine Hid.out ?_; assumption))); ((try simp) <;> omega))))
      ((first | (go_at_call 13; refine (toFrac_any _ _ _).mono ?_; rintro e w1 ⟨rfl, hbk⟩; have hS := Lib.hid (bx_call HE (by assumption) hbk); obtain ⟨hc1, hf1⟩ := bcell hbk; have hz0 := fun b h => Nat.lt_of_lt_of_le (n := b) h hbk.size; have hz1 := hbk.size; (try simp at hz1); (try have hq1 : W0.heap.size < w1.heap.size := by omega); clear hbk) | (go_at_call 18; refine (sMed_any _ _ _ _ _ ha hb hc hd).mono ?_; rintro e w1 ⟨rfl, hbk⟩; have hS := Lib.hid (bx_call HE (by assumption) hbk); obtain ⟨hc1, hf1⟩ := bcell hbk; have hz0 := fun b h => Nat.lt_of_lt_of_le (n := b) h hbk.size; have hz1 := hbk.size; (try simp at hz1); (try have hq1 : W0.heap.size < w1.heap.size := by omega); clear hbk)))
    all_goals
      go_wp2_with fail
      go_meet
      refine Got.mk (a := a) (b := b) (c := c) (d := d) _ ?_ ?_ ?_ ?_
      · ((try simp) <;> omega)
      · simp (maxDischargeDepth := 8) [*, go_sem]
      · simp (maxDischargeDepth := 8) [*, go_sem]
      · assumption
  case rest =>
    obtain ⟨g, rfl, rfl, hg0, hg1, q0, q1, hbw⟩ := hcut
    have hbel1 := nxt hbel hbw (by omega)
    have HF := Lib.hid (Boxed.of (bx_keep HE hbw))
    rename World => W1
    have hsz1 : w.heap.size + 2 ≤ W1.heap.size := by have := hbw.size; omega
    go_upto_region 2 with fail
    go_cut [7, 8] (fun s7 s8 wx => Got w W1 (opN (okF2 a b c d) (a+c) (b+d)) (opD (okF2 a b c d) (a+c) (b+d)) (opC (okF2 a b c d) (a+c) (b+d)) s7 s8 wx)
    case first =>
      go_region_held3 (fun w' => Below W1.heap.size W1 w' ∧ w'.cell? ⟨w.heap.size, 0, none⟩ = some (.int .i64 a) ∧ w'.cell? ⟨w.heap.size, 1, none⟩ = some (.int .i64 b) ∧ w'.cell? ⟨w.heap.size + 1, 0, none⟩ = some (.int .i64 c) ∧ w'.cell? ⟨w.heap.size + 1, 1, none⟩ = some (.int .i64 d))
        ((first | (first | assumption | (refine Hid.out ?_; assumption)) | (exact bx_keep HF (Below.drew (Below.refl _ _))) | (exact bx_keep HF (Below.drew (Below.alloc (Below.refl _ _) (Nat.le_refl _) _))) | (refine bx_alloc HF ?_ _; (first | assumption | (refine Hid.out ?_; assumption))) | (refine bx_set HF (bx_set HF ?_ _ _ ?_) _ _ ?_; ((first | assumption | (refine Hid.out ?_; assumption))); ((try simp) <;> omega); ((try simp) <;> omega)) | (refine bx_set HF ?_ _ _ ?_; ((first | assumption | (refine Hid.out ?_; assumption))); ((try simp) <;> omega))))
        ((first | (go_at_call 13; refine (toFrac_any _ _ _).mono ?_; rintro e w1 ⟨rfl, hbk⟩; have hS := Lib.hid (bx_call HF (by assumption) hbk); obtain ⟨hc1, hf1⟩ := bcell hbk; have hz0 := fun b h => Nat.lt_of_lt_of_le (n := b) h hbk.size; have hz1 := hbk.size; (try simp at hz1); (try have hq1 : W1.heap.size < w1.heap.size := by omega); clear hbk) | (go_at_call 19; refine (implMed_any _ _ _ _ _ ha hb hc hd).mono ?_; rintro e w1 ⟨rfl, hbk⟩; have hS := Lib.hid (bx_call HF (by assumption) hbk); obtain ⟨hc1, hf1⟩ := bcell hbk; have hz0 := fun b h => Nat.lt_of_lt_of_le (n := b) h hbk.size; have hz1 := hbk.size; (try simp at hz1); (try have hq1 : W1.heap.size < w1.heap.size := by omega); clear hbk)))
      all_goals
        go_wp2_with fail
        go_meet
        refine Got.mk (a := a) (b := b) (c := c) (d := d) _ ?_ ?_ ?_ ?_
        · ((try simp) <;> omega)
        · simp (maxDischargeDepth := 8) [*, go_sem]
        · simp (maxDischargeDepth := 8) [*, go_sem]
        · assumption
    case rest =>
      obtain ⟨g2, rfl, rfl, hg20, hg21, q20, q21, hbw2⟩ := hcut
      have q0' := (hbw2.cell (p := ⟨g, 0, none⟩) hg1).trans q0
      have q1' := (hbw2.cell (p := ⟨g, 1, none⟩) hg1).trans q1
      have hbel2 := nxt hbel1 hbw2 (by omega)
      have hsz2 := hbw2.size
      clear q0 q1
      go_wp2_with fail
      refine (eqFrac_any _ _ _).mono ?_
      rintro e w3 ⟨rfl, hb3⟩
      go_wp2
      go_ret
      exact ⟨rfl, nxt hbel2 hb3 (by omega)⟩
set_option maxHeartbeats 4000000 in
theorem walk_FnExactDivFrac (a b c d : Int) (w : World) (ha : I64 a) (hb : I64 b) (hc : I64 c) (hd : I64 d) : Calls Try.prog 8 #[.agg #[.int .i64 a, .int .i64 b], .agg #[.int .i64 c, .int .i64 d]] w fun e w' => e = .returned (.bool true) ∧ Below w.heap.size w w' := by
  have HE := Lib.hid (Boxed.start w a b c d)
  have hbel : Below w.heap.size w ((w.alloc (.cells #[.int .i64 a, .int .i64 b] 23)).alloc (.cells #[.int .i64 c, .int .i64 d] 23)) := by (repeat (first | exact Below.refl _ _ | assumption | refine Below.setCell ?_ (by (try simp) <;> omega) _ | refine Below.alloc ?_ (by (try simp) <;> omega) _ | refine below_drewN_ ?_ | refine Below.drew ?_))
  have hsz : w.heap.size + 2 ≤ ((w.alloc (.cells #[.int .i64 a, .int .i64 b] 23)).alloc (.cells #[.int .i64 c, .int .i64 d] 23)).heap.size := by simp
  go_enter Try.func8, Try.ntmps8
  go_upto_region 1 with fail
  generalize ((w.alloc (.cells #[.int .i64 a, .int .i64 b] 23)).alloc (.cells #[.int .i64 c, .int .i64 d] 23)) = W0 at *
  go_cut [5, 6] (fun s5 s6 wx => Got w W0 (dvN (okF2 a b c d) c (a*d) (b*c)) (dvD (okF2 a b c d) c (a*d) (b*c)) (dvC (okF2 a b c d) c (a*d) (b*c)) s5 s6 wx)
  case first =>
    go_region_held3 (fun w' => Below W0.heap.size W0 w' ∧ w'.cell? ⟨w.heap.size, 0, none⟩ = some (.int .i64 a) ∧ w'.cell? ⟨w.heap.size, 1, none⟩ = some (.int .i64 b) ∧ w'.cell? ⟨w.heap.size + 1, 0, none⟩ = some (.int .i64 c) ∧ w'.cell? ⟨w.heap.size + 1, 1, none⟩ = some (.int .i64 d))
      ((first | (first | assumption | (refine Hid.out ?_; assumption)) | (exact bx_keep HE (Below.drew (Below.refl _ _))) | (exact bx_keep HE (Below.drew (Below.alloc (Below.refl _ _) (Nat.le_refl _) _))) | (refine bx_alloc HE ?_ _; (first | assumption | (refine Hid.out ?_; assumption))) | (refine bx_set HE (bx_set HE ?_ _ _ ?_) _ _ ?_; ((first | assumption | (refine Hid.out ?_; assumption))); ((try simp) <;> omega); ((try simp) <;> omega)) | (refine bx_set HE ?_ _ _ ?_; ((first | assumption | (refine Hid.out ?_; assumption))); ((try simp) <;> omega))))
      ((first | (go_at_call 13; refine (toFrac_any _ _ _).mono ?_; rintro e w1 ⟨rfl, hbk⟩; have hS := Lib.hid (bx_call HE (by assumption) hbk); obtain ⟨hc1, hf1⟩ := bcell hbk; have hz0 := fun b h => Nat.lt_of_lt_of_le (n := b) h hbk.size; have hz1 := hbk.size; (try simp at hz1); (try have hq1 : W0.heap.size < w1.heap.size := by omega); clear hbk) | (go_at_call 24; refine (sDiv_any _ _ _ _ _ ha hb hc hd).mono ?_; rintro e w1 ⟨rfl, hbk⟩; have hS := Lib.hid (bx_call HE (by assumption) hbk); obtain ⟨hc1, hf1⟩ := bcell hbk; have hz0 := fun b h => Nat.lt_of_lt_of_le (n := b) h hbk.size; have hz1 := hbk.size; (try simp at hz1); (try have hq1 : W0.heap.size < w1.heap.size := by omega); clear hbk)))
    all_goals
      go_wp2_with fail
      go_meet
      refine Got.mk (a := a) (b := b) (c := c) (d := d) _ ?_ ?_ ?_ ?_
      · ((try simp) <;> omega)
      · simp (maxDischargeDepth := 8) [*, go_sem]
      · simp (maxDischargeDepth := 8) [*, go_sem]
      · assumption
  case rest =>
    obtain ⟨g, rfl, rfl, hg0, hg1, q0, q1, hbw⟩ := hcut
    have hbel1 := nxt hbel hbw (by omega)
    have HF := Lib.hid (Boxed.of (bx_keep HE hbw))
    rename World => W1
    have hsz1 : w.heap.size + 2 ≤ W1.heap.size := by have := hbw.size; omega
    go_upto_region 2 with fail
    go_cut [7, 8] (fun s7 s8 wx => Got w W1 (dvN (okF2 a b c d) c (a*d) (b*c)) (dvD (okF2 a b c d) c (a*d) (b*c)) (dvC (okF2 a b c d) c (a*d) (b*c)) s7 s8 wx)
    case first =>
      go_region_held3 (fun w' => Below W1.heap.size W1 w' ∧ w'.cell? ⟨w.heap.size, 0, none⟩ = some (.int .i64 a) ∧ w'.cell? ⟨w.heap.size, 1, none⟩ = some (.int .i64 b) ∧ w'.cell? ⟨w.heap.size + 1, 0, none⟩ = some (.int .i64 c) ∧ w'.cell? ⟨w.heap.size + 1, 1, none⟩ = some (.int .i64 d))
        ((first | (first | assumption | (refine Hid.out ?_; assumption)) | (exact bx_keep HF (Below.drew (Below.refl _ _))) | (exact bx_keep HF (Below.drew (Below.alloc (Below.refl _ _) (Nat.le_refl _) _))) | (refine bx_alloc HF ?_ _; (first | assumption | (refine Hid.out ?_; assumption))) | (refine bx_set HF (bx_set HF ?_ _ _ ?_) _ _ ?_; ((first | assumption | (refine Hid.out ?_; assumption))); ((try simp) <;> omega); ((try simp) <;> omega)) | (refine bx_set HF ?_ _ _ ?_; ((first | assumption | (refine Hid.out ?_; assumption))); ((try simp) <;> omega))))
        ((first | (go_at_call 13; refine (toFrac_any _ _ _).mono ?_; rintro e w1 ⟨rfl, hbk⟩; have hS := Lib.hid (bx_call HF (by assumption) hbk); obtain ⟨hc1, hf1⟩ := bcell hbk; have hz0 := fun b h => Nat.lt_of_lt_of_le (n := b) h hbk.size; have hz1 := hbk.size; (try simp at hz1); (try have hq1 : W1.heap.size < w1.heap.size := by omega); clear hbk) | (go_at_call 25; refine (implDiv_any _ _ _ _ _ ha hb hc hd).mono ?_; rintro e w1 ⟨rfl, hbk⟩; have hS := Lib.hid (bx_call HF (by assumption) hbk); obtain ⟨hc1, hf1⟩ := bcell hbk; have hz0 := fun b h => Nat.lt_of_lt_of_le (n := b) h hbk.size; have hz1 := hbk.size; (try simp at hz1); (try have hq1 : W1.heap.size < w1.heap.size := by omega); clear hbk)))
      all_goals
        go_wp2_with fail
        go_meet
        refine Got.mk (a := a) (b := b) (c := c) (d := d) _ ?_ ?_ ?_ ?_
        · ((try simp) <;> omega)
        · simp (maxDischargeDepth := 8) [*, go_sem]
        · simp (maxDischargeDepth := 8) [*, go_sem]
        · assumption
    case rest =>
      obtain ⟨g2, rfl, rfl, hg20, hg21, q20, q21, hbw2⟩ := hcut
      have q0' := (hbw2.cell (p := ⟨g, 0, none⟩) hg1).trans q0
      have q1' := (hbw2.cell (p := ⟨g, 1, none⟩) hg1).trans q1
      have hbel2 := nxt hbel1 hbw2 (by omega)
      have hsz2 := hbw2.size
      clear q0 q1
      go_wp2_with fail
      refine (eqFrac_any _ _ _).mono ?_
      rintro e w3 ⟨rfl, hb3⟩
      go_wp2
      go_ret
      exact ⟨rfl, nxt hbel2 hb3 (by omega)⟩
end Go.Proofs.Ytiobdgnhfecjnaa
