/- BestFrac: the law. -/
import Derived.Test.YtiobdgnhfecjnaaWs
namespace Go.Proofs.Ytiobdgnhfecjnaa
open Go.RowKit
set_option linter.unusedVariables false

theorem walk_FnExactBestFrac (n d m : Int) (w : World) (h : I64 n) (h' : I64 d) (hm : I64 m) : Calls Try.prog 11 #[.agg #[.int .i64 n, .int .i64 d], .int .i64 m] w fun e w' => e = .returned (.bool true) ∧ Below w.heap.size w w' := by
  go_enter Try.func11, Try.ntmps11
  go_wp2_with fail
  refine (toFrac_any _ _ _).mono ?_
  rintro e w1 ⟨rfl, hb1⟩
  have a0 : w1.cell? ⟨w.heap.size, 0, none⟩ = some (.int .i64 n) := ((bcell hb1).1 _ _ (by simp)).trans (by go_simp)
  have a1 : w1.cell? ⟨w.heap.size, 1, none⟩ = some (.int .i64 d) := ((bcell hb1).1 _ _ (by simp)).trans (by go_simp)
  have B1 := nxt (a := w) (B := w.heap.size) (by (repeat (first | exact Below.refl _ _ | assumption | refine Below.setCell ?_ (by (try simp) <;> omega) _ | refine Below.alloc ?_ (by (try simp) <;> omega) _ | refine below_drewN_ ?_ | refine Below.drew ?_))) hb1 (by simp)
  have hz1 := hb1.size
  simp at hz1
  clear hb1
  go_wp2_with fail
  refine (specBest_any _ _ _ _ h h' hm).mono ?_
  rintro e w2 ⟨rn, rd, rc, rfl, HR, hb2⟩
  have hr := Lib.hid HR
  clear HR
  have B2 := nxt B1 hb2 (by omega)
  have hz2 := hb2.size
  have b0 := ((bcell hb2).1 _ 0 (by omega)).trans a0
  have b1 := ((bcell hb2).1 _ 1 (by omega)).trans a1
  have b0' : (w2.alloc (.cells #[.int .i64 rn, .int .i64 rd] 25)).cell? ⟨w.heap.size, 0, none⟩ = some (.int .i64 n) := (World.cell?_alloc_lt w2 _ _ (by show w.heap.size < _; omega)).trans b0
  have b1' : (w2.alloc (.cells #[.int .i64 rn, .int .i64 rd] 25)).cell? ⟨w.heap.size, 1, none⟩ = some (.int .i64 d) := (World.cell?_alloc_lt w2 _ _ (by show w.heap.size < _; omega)).trans b1
  have B2' := Below.alloc B2 (by omega) (.cells #[.int .i64 rn, .int .i64 rd] 25)
  clear a0 a1 hb2 b0 b1
  go_wp2_with fail
  refine (toFrac_any _ _ _).mono ?_
  rintro e w3 ⟨rfl, hb3⟩
  have hz3 := hb3.size
  simp at hz3
  have B3 := nxt B2' hb3 (by simp; omega)
  have e0 : w3.cell? ⟨w2.heap.size, 0, none⟩ = some (.int .i64 rn) := ((bcell hb3).1 _ _ (by simp)).trans (by go_simp)
  have e1 : w3.cell? ⟨w2.heap.size, 1, none⟩ = some (.int .i64 rd) := ((bcell hb3).1 _ _ (by simp)).trans (by go_simp)
  clear b0' b1' hb3
  go_wp2_with fail
  refine (implBest_any _ _ _ _ h h' hm).mono ?_
  rintro e w4 ⟨rn', rd', rc', rfl, HR', hb4⟩
  obtain ⟨rfl, rfl, rfl⟩ := hr.out.same HR'
  have B4 := nxt B3 hb4 (by omega)
  have hz4 := hb4.size
  have f0 := ((bcell hb4).1 _ 0 (by omega)).trans e0
  have f1 := ((bcell hb4).1 _ 1 (by omega)).trans e1
  have f0' : (w4.alloc (.cells #[.int .i64 rn, .int .i64 rd] 25)).cell? ⟨w2.heap.size, 0, none⟩ = some (.int .i64 rn) := (World.cell?_alloc_lt w4 _ _ (by show w2.heap.size < _; omega)).trans f0
  have f1' : (w4.alloc (.cells #[.int .i64 rn, .int .i64 rd] 25)).cell? ⟨w2.heap.size, 1, none⟩ = some (.int .i64 rd) := (World.cell?_alloc_lt w4 _ _ (by show w2.heap.size < _; omega)).trans f1
  have B4' := Below.alloc B4 (by omega) (.cells #[.int .i64 rn, .int .i64 rd] 25)
  clear hb4 e0 e1 HR' f0 f1
  go_wp2_with fail
  refine (eqFrac_any _ _ _).mono ?_
  rintro e w5 ⟨rfl, hb5⟩
  have B5 := nxt B4' hb5 (by simp; omega)
  go_wp2
  go_ret
  exact ⟨rfl, B5⟩

end Go.Proofs.Ytiobdgnhfecjnaa
