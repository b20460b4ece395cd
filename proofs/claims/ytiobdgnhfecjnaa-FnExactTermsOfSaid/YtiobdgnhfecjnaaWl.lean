/- The terms of a fraction: walks and the law. -/
import Derived.Test.YtiobdgnhfecjnaaWc
import Derived.Test.YtiobdgnhfecjnaaSl
namespace Go.Proofs.Ytiobdgnhfecjnaa
open Go.RowKit
set_option linter.unusedVariables false

/-- The terms of n / d. -/
def IsTerms : Int → Int → List Int → Prop
  | _, d, [] => d = 0
  | n, d, q :: l => d ≠ 0 ∧ q = fdiv n d ∧ IsTerms d (n - q * d) l
theorem IsTerms.unique : ∀ (l l' : List Int) (n d : Int), IsTerms n d l → IsTerms n d l' → l = l'
  | [], [], _, _, _, _ => rfl
  | [], _ :: _, _, _, h, h' => absurd h h'.1
  | _ :: _, [], _, _, h, h' => absurd h' h.1
  | q :: l, q' :: l', n, d, h, h' => by
    obtain ⟨_, rfl, h⟩ := h
    obtain ⟨_, rfl, h'⟩ := h'
    rw [IsTerms.unique l l' _ _ h h']
/-- What has been gathered, and what is still to come. -/
def TermsTo (n d : Int) (out : List Int) (x y : Int) : Prop := ∀ r, IsTerms x y r → IsTerms n d (out ++ r)
theorem TermsTo.start (n d : Int) : TermsTo n d [] n d := fun _ h => h
theorem TermsTo.step {n d x y : Int} {out : List Int} (h : TermsTo n d out x y) (hy : y ≠ 0) : TermsTo n d (out ++ [fdiv x y]) y (x - fdiv x y * y) := by
  intro r hr
  rw [List.append_assoc]
  exact h _ ⟨hy, rfl, hr⟩
theorem TermsTo.done {n d x : Int} {out : List Int} (h : TermsTo n d out x 0) : IsTerms n d out := by
  have := h [] rfl
  rwa [List.append_nil] at this
/-- The list of terms; none of a fraction that is not valid. -/
def TermsOk (n d : Int) (l : List Int) : Prop := if okF n d then IsTerms n d l else l = []
theorem TermsOk.unique {n d : Int} {l l' : List Int} (h : TermsOk n d l) (h' : TermsOk n d l') : l = l' := by
  unfold TermsOk at h h'
  split at h
  · rename_i hk
    rw [if_pos hk] at h'
    exact IsTerms.unique _ _ _ _ h h'
  · rename_i hk
    rw [if_neg hk] at h'
    rw [h, h']
theorem rest_lo {x y : Int} (h : 0 < y) : 0 ≤ x - fdiv x y * y ∧ x - fdiv x y * y < y := by
  unfold fdiv
  have h1 := Int.emod_nonneg x (show y ≠ 0 by omega)
  have h2 := Int.emod_lt_of_pos x h
  have h3 := Int.emod_def x y
  rw [Int.mul_comm] at h3
  omega
/-- A fresh slice with the terms. -/
def FreshTerms (n d : Int) (w : World) (e : Ending) (w' : World) : Prop := ∃ l, TermsOk n d l ∧ l.length ≤ 1000000 ∧ Fresh l w e w'

set_option maxHeartbeats 1000000 in
theorem implTerms_any (n d : Int) (w : World) (h : I64 n) (h' : I64 d) :
    Calls Try.prog 27 #[.agg #[.int .i64 n, .int .i64 d]] w (FreshTerms n d w) := by
  obtain ⟨i0, hi, hz0, hz1, hz2⟩ := info_parts infoI
  cases hok : okF n d
  · have H := Lib.hid hok
    go_enter Try.func27, Try.ntmps27
    go_wp2_with (go_at_call 43; refine (isFrac_any _ _ _ h h').mono ?_; rintro e w1 ⟨rfl, hb1⟩)
    go_ret
    have hbel := nxt (a := w) (B := w.heap.size) (by (repeat (first | exact Below.refl _ _ | assumption | refine Below.setCell ?_ (by (try simp) <;> omega) _ | refine Below.alloc ?_ (by (try simp) <;> omega) _ | refine below_drewN_ ?_ | refine Below.drew ?_))) hb1 (by simp)
    exact ⟨[], by unfold TermsOk; rw [if_neg (by rw [H.out]; simp)], by simp, none, 0, rfl, Own.nil _ _ _, hbel⟩
  · have H := Lib.hid hok
    obtain ⟨k1, k2, k3, k4, -⟩ := okF_inv hok
    clear hok
    go_enter Try.func27, Try.ntmps27
    go_wp2_with fail
    refine (isFrac_any _ _ _ h h').mono ?_
    rw [H.out]
    rintro e w1 ⟨rfl, hb1⟩
    obtain ⟨hc1, hf1⟩ := bcell hb1
    have hz := hb1.size
    simp at hz
    have e0 : w1.cell? ⟨w.heap.size, 0, none⟩ = some (.int .i64 n) := (hc1 _ _ (by simp)).trans (by go_simp)
    have e1 : w1.cell? ⟨w.heap.size, 1, none⟩ = some (.int .i64 d) := (hc1 _ _ (by simp)).trans (by go_simp)
    clear hc1 hf1
    have e0' : (w1.alloc (.cells #[] 2)).cell? ⟨w.heap.size, 0, none⟩ = some (.int .i64 n) := (World.cell?_alloc_lt w1 _ _ (by (try simp) <;> omega)).trans e0
    have e1' : (w1.alloc (.cells #[] 2)).cell? ⟨w.heap.size, 1, none⟩ = some (.int .i64 d) := (World.cell?_alloc_lt w1 _ _ (by (try simp) <;> omega)).trans e1
    have hbel := nxt (a := w) (B := w.heap.size) (by (repeat (first | exact Below.refl _ _ | assumption | refine Below.setCell ?_ (by (try simp) <;> omega) _ | refine Below.alloc ?_ (by (try simp) <;> omega) _ | refine below_drewN_ ?_ | refine Below.drew ?_))) hb1 (by simp)
    go_wp2
    try (go_quiet (fail); go_wp2)
    go_loopw [3, 4, 5] (fun v s t wr => ∃ (x y : Int) (out : List Int), s = .int .i64 x ∧ t = .int .i64 y ∧ 0 ≤ y ∧ y ≤ 1000000 ∧ -1000000000 ≤ x ∧ x ≤ 1000000000 ∧
        wr.ownsRow w.heap.size 2 1 v out.length (vals out) ∧ TermsTo n d out x y ∧ (out.length : Int) + y ≤ 1000000 ∧ Below w.heap.size w wr) (fun _ _ t _ => (intOf t).toNat)
    case atStart =>
      have hl := World.ownsRow_lit (base := w.heap.size) (e := 2) (size := 1) w1 #[] 0 (by omega) (by unfold maxLen; omega) rfl
      exact ⟨n, d, [], rfl, rfl, by omega, by omega, k3, k4, hl, TermsTo.start n d, by simp; omega, by (repeat (first | exact Below.refl _ _ | assumption | refine Below.setCell ?_ (by (try simp) <;> omega) _ | refine Below.alloc ?_ (by (try simp) <;> omega) _ | refine below_drewN_ ?_ | refine Below.drew ?_))⟩
    case round =>
      obtain ⟨x, y, out, rfl, rfl, y1, y2, x1, x2, hown, hto, hlen, hbr⟩ := hrel
      have hsz := hbr.size
      by_cases hy : y = 0
      · subst hy
        have HT := Lib.hid hto
        clear hto
        go_wp2
        go_ret
        obtain ⟨A, c, hA, hO⟩ := Own.of_row hown
        exact ⟨out, by unfold TermsOk; rw [if_pos H.out]; exact HT.out.done, by omega, A, c, by simpa using hA, hO, hbr⟩
      · have hy1 : 1 ≤ y := by omega
        obtain ⟨r1, r2⟩ := rest_lo (x := x) (y := y) (by omega)
        have HT := Lib.hid (hto.step hy)
        clear hto hy
        go_wp2_with (first
          | (go_at_call 44; refine (floorDiv_any x y _ ⟨by omega, by omega⟩ hy1 (by omega)).mono ?_; rintro e w2 ⟨rfl, rfl⟩)
          | (at_builtin; refine wpList_append_own _ rfl _ _ 31 rfl w.heap.size 2 i0 (.int .i64 0) 1 8 Try.underlying31 hi hz0 hz1 hz2 rfl (by decide) _ _ _ rfl (hown.alloc _) ⟨wr.heap.size, 0, none⟩ 1 1 [.int .i64 (fdiv x y)] rfl rfl ?c1 ?c2 ?c3 ?c4 ?c5 ?_))
        case c1 => exact cell_one_new _ _ _
        case c2 => intro u hu; simp at hu; subst hu; rfl
        case c3 => unfold maxLen; omega
        case c4 => omega
        case c5 => simp; omega
        intro v' w3 hown' hgrow _
        have hbr3 := (hbr.alloc hsz (.cells #[.int .i64 (fdiv x y)] 2)).grown hgrow (by simp; omega) (fun k hk => (hown.lt k hk).1)
        clear hown hgrow hbr
        go_wp2
        go_roundw
        case rel => exact ⟨y, x - fdiv x y * y, out ++ [fdiv x y], rfl, rfl, r1, by omega, by omega, by omega, by simpa [vals] using hown', HT.out, by simp; omega, hbr3⟩
        case measure => simp [intOf]; omega
set_option maxHeartbeats 1000000 in
theorem specTerms_any (n d : Int) (w : World) (h : I64 n) (h' : I64 d) :
    Calls Try.prog 26 #[.agg #[.int .i64 n, .int .i64 d]] w (FreshTerms n d w) := by
  obtain ⟨i0, hi, hz0, hz1, hz2⟩ := info_parts infoI
  cases hok : okF n d
  · have H := Lib.hid hok
    go_enter Try.func26, Try.ntmps26
    go_wp2_with (go_at_call 36; refine (l02Ok_any _ _ _ h h').mono ?_; rintro e w1 ⟨rfl, hb1⟩)
    go_ret
    have hbel := nxt (a := w) (B := w.heap.size) (by (repeat (first | exact Below.refl _ _ | assumption | refine Below.setCell ?_ (by (try simp) <;> omega) _ | refine Below.alloc ?_ (by (try simp) <;> omega) _ | refine below_drewN_ ?_ | refine Below.drew ?_))) hb1 (by simp)
    exact ⟨[], by unfold TermsOk; rw [if_neg (by rw [H.out]; simp)], by simp, none, 0, rfl, Own.nil _ _ _, hbel⟩
  · have H := Lib.hid hok
    obtain ⟨k1, k2, k3, k4, -⟩ := okF_inv hok
    clear hok
    go_enter Try.func26, Try.ntmps26
    go_wp2_with fail
    refine (l02Ok_any _ _ _ h h').mono ?_
    rw [H.out]
    rintro e w1 ⟨rfl, hb1⟩
    obtain ⟨hc1, hf1⟩ := bcell hb1
    have hz := hb1.size
    simp at hz
    have e0 : w1.cell? ⟨w.heap.size, 0, none⟩ = some (.int .i64 n) := (hc1 _ _ (by simp)).trans (by go_simp)
    have e1 : w1.cell? ⟨w.heap.size, 1, none⟩ = some (.int .i64 d) := (hc1 _ _ (by simp)).trans (by go_simp)
    clear hc1 hf1
    have e0' : (w1.alloc (.cells #[] 2)).cell? ⟨w.heap.size, 0, none⟩ = some (.int .i64 n) := (World.cell?_alloc_lt w1 _ _ (by (try simp) <;> omega)).trans e0
    have e1' : (w1.alloc (.cells #[] 2)).cell? ⟨w.heap.size, 1, none⟩ = some (.int .i64 d) := (World.cell?_alloc_lt w1 _ _ (by (try simp) <;> omega)).trans e1
    have hbel := nxt (a := w) (B := w.heap.size) (by (repeat (first | exact Below.refl _ _ | assumption | refine Below.setCell ?_ (by (try simp) <;> omega) _ | refine Below.alloc ?_ (by (try simp) <;> omega) _ | refine below_drewN_ ?_ | refine Below.drew ?_))) hb1 (by simp)
    go_wp2
    try (go_quiet (fail); go_wp2)
    go_loopw [3, 4, 5] (fun v s t wr => ∃ (x y : Int) (out : List Int), s = .int .i64 x ∧ t = .int .i64 y ∧ 0 ≤ y ∧ y ≤ 1000000 ∧ -1000000000 ≤ x ∧ x ≤ 1000000000 ∧
        wr.ownsRow w.heap.size 2 1 v out.length (vals out) ∧ TermsTo n d out x y ∧ (out.length : Int) + y ≤ 1000000 ∧ Below w.heap.size w wr) (fun _ _ t _ => (intOf t).toNat)
    case atStart =>
      have hl := World.ownsRow_lit (base := w.heap.size) (e := 2) (size := 1) w1 #[] 0 (by omega) (by unfold maxLen; omega) rfl
      exact ⟨n, d, [], rfl, rfl, by omega, by omega, k3, k4, hl, TermsTo.start n d, by simp; omega, by (repeat (first | exact Below.refl _ _ | assumption | refine Below.setCell ?_ (by (try simp) <;> omega) _ | refine Below.alloc ?_ (by (try simp) <;> omega) _ | refine below_drewN_ ?_ | refine Below.drew ?_))⟩
    case round =>
      obtain ⟨x, y, out, rfl, rfl, y1, y2, x1, x2, hown, hto, hlen, hbr⟩ := hrel
      have hsz := hbr.size
      by_cases hy : y = 0
      · subst hy
        have HT := Lib.hid hto
        clear hto
        go_wp2
        go_ret
        obtain ⟨A, c, hA, hO⟩ := Own.of_row hown
        exact ⟨out, by unfold TermsOk; rw [if_pos H.out]; exact HT.out.done, by omega, A, c, by simpa using hA, hO, hbr⟩
      · have hy1 : 1 ≤ y := by omega
        obtain ⟨r1, r2⟩ := rest_lo (x := x) (y := y) (by omega)
        have HT := Lib.hid (hto.step hy)
        clear hto hy
        go_wp2_with (first
          | (go_at_call 42; refine (l02Div_any x y _ ⟨by omega, by omega⟩ hy1 (by omega)).mono ?_; rintro e w2 ⟨rfl, rfl⟩)
          | (at_builtin; refine wpList_append_own _ rfl _ _ 31 rfl w.heap.size 2 i0 (.int .i64 0) 1 8 Try.underlying31 hi hz0 hz1 hz2 rfl (by decide) _ _ _ rfl (hown.alloc _) ⟨wr.heap.size, 0, none⟩ 1 1 [.int .i64 (fdiv x y)] rfl rfl ?c1 ?c2 ?c3 ?c4 ?c5 ?_))
        case c1 => exact cell_one_new _ _ _
        case c2 => intro u hu; simp at hu; subst hu; rfl
        case c3 => unfold maxLen; omega
        case c4 => omega
        case c5 => simp; omega
        intro v' w3 hown' hgrow _
        have hbr3 := (hbr.alloc hsz (.cells #[.int .i64 (fdiv x y)] 2)).grown hgrow (by simp; omega) (fun k hk => (hown.lt k hk).1)
        clear hown hgrow hbr
        go_wp2
        go_roundw
        case rel => exact ⟨y, x - fdiv x y * y, out ++ [fdiv x y], rfl, rfl, r1, by omega, by omega, by omega, by simpa [vals] using hown', HT.out, by simp; omega, hbr3⟩
        case measure => simp [intOf]; omega

set_option maxHeartbeats 2000000 in
theorem walk_FnExactTermsOf (n d : Int) (w : World) (h : I64 n) (h' : I64 d) : Calls Try.prog 9 #[.agg #[.int .i64 n, .int .i64 d]] w fun e w' => e = .returned (.bool true) ∧ Below w.heap.size w w' := by
  go_enter Try.func9, Try.ntmps9
  -- spec
  go_wp2_with fail
  refine (toFrac_any _ _ _).mono ?_
  rintro e w1 ⟨rfl, hb1⟩
  have hz1 : w.heap.size < w1.heap.size := by have := hb1.size; simp at this; omega
  have B1 := nxt (a := w) (B := w.heap.size) (by (repeat (first | exact Below.refl _ _ | assumption | refine Below.setCell ?_ (by (try simp) <;> omega) _ | refine Below.alloc ?_ (by (try simp) <;> omega) _ | refine below_drewN_ ?_ | refine Below.drew ?_))) hb1 (by simp)
  have e0 : w1.cell? ⟨w.heap.size, 0, none⟩ = some (.int .i64 n) := ((bcell hb1).1 _ _ (by simp)).trans (by go_simp)
  have e1 : w1.cell? ⟨w.heap.size, 1, none⟩ = some (.int .i64 d) := ((bcell hb1).1 _ _ (by simp)).trans (by go_simp)
  clear hb1
  go_wp2_with fail
  refine (specTerms_any _ _ _ h h').mono ?_
  rintro e w2 ⟨l, HL, hl, A, c, rfl, O1, hb2⟩
  have B2 := nxt B1 hb2 (by omega)
  have hz2 := hb2.size
  have f0 := ((bcell hb2).1 _ 0 hz1).trans e0
  have f1 := ((bcell hb2).1 _ 1 hz1).trans e1
  clear hb2 e0 e1
  -- impl
  go_wp2_with fail
  refine (toFrac_any _ _ _).mono ?_
  rintro e w3 ⟨rfl, hb3⟩
  have B3 := nxt B2 hb3 (by omega)
  have hz3 := hb3.size
  have O1' := O1.below hb3 (Nat.le_refl _)
  have g0 := ((bcell hb3).1 _ 0 (by omega)).trans f0
  have g1 := ((bcell hb3).1 _ 1 (by omega)).trans f1
  clear hb3 O1 f0 f1
  go_wp2_with fail
  refine (implTerms_any _ _ _ h h').mono ?_
  rintro e w4 ⟨l', HL', hl', A', c', rfl, O2, hb4⟩
  obtain rfl := HL.unique HL'
  have B4 := nxt B3 hb4 (by omega)
  have hz4 := hb4.size
  have P1 := O1'.below hb4 hz3
  have k0 := ((bcell hb4).1 _ 0 (by omega)).trans g0
  have k1 := ((bcell hb4).1 _ 1 (by omega)).trans g1
  clear hb4 O1' g0 g1 HL'
  -- eq
  go_wp2_with fail
  refine (eqSame_any _ _ _ _ _ _ _ _ O2.sl P1.sl (by omega)).mono ?_
  rintro e w5 ⟨rfl, m5, rfl⟩
  -- mark
  go_wp2_with fail
  refine (mark_any _ _ _ _ _ _ _ (O2.drewN m5) (by omega) (by omega) (by omega)).mono ?_
  rintro e w6 ⟨rfl, zs, hzl, hmk, O3, hon⟩
  have HZL := Lib.hid hzl
  have HMK := Lib.hid hmk
  clear hzl hmk
  have hon3 := hon.below (B := w3.heap.size) (Nat.le_refl _) hz4
  have hz6 : w4.heap.size ≤ w6.heap.size := hon.size
  have B6 := (below_drewN_ (n := m5) B4).trans (hon3.mono (by omega))
  have P6 := (P1.drewN m5).only hon (.inl hz3)
  have e0 := (hon3.cell (p := ⟨w.heap.size, 0, none⟩) (by show w.heap.size < _; omega)).trans k0
  have e1 := (hon3.cell (p := ⟨w.heap.size, 1, none⟩) (by show w.heap.size < _; omega)).trans k1
  clear hon hon3 k0 k1 P1
  go_wp2_with fail
  refine (heldN_any _ _ _ _ HZL.out _ _ _ O3.sl HMK.out (by omega) (by omega) (by omega)).mono ?_
  rintro e w7 ⟨rfl, rfl⟩
  go_wp2_with fail
  refine (toFrac_any _ _ _).mono ?_
  rintro e w8 ⟨rfl, hb8⟩
  have B8 := nxt B6 hb8 (by omega)
  have hz8 := hb8.size
  have P8 := P6.below hb8 (by omega)
  have O8 := O3.below hb8 (by omega)
  clear hb8 P6 O3
  go_wp2_with fail
  refine (implTerms_any _ _ _ h h').mono ?_
  rintro e w9 ⟨l'', HL'', hl'', A'', c'', rfl, O9, hb9⟩
  obtain rfl := HL.unique HL''
  have B9 := nxt B8 hb9 (by omega)
  have P9 := P8.below hb9 (by omega)
  have Q9 := O8.below hb9 (by omega)
  clear hb9 P8 O8
  go_wp2_with fail
  refine (eqSame_any _ _ _ _ _ _ _ _ O9.sl P9.sl (by omega)).mono ?_
  rintro e w10 ⟨rfl, m10, rfl⟩
  go_wp2_with fail
  refine (heldN_any _ _ _ _ HZL.out _ _ _ (Q9.drewN m10).sl HMK.out (by omega) (by omega) (by omega)).mono ?_
  rintro e w11 ⟨rfl, rfl⟩
  go_wp2
  go_ret
  exact ⟨rfl, below_drewN_ B9⟩

end Go.Proofs.Ytiobdgnhfecjnaa
