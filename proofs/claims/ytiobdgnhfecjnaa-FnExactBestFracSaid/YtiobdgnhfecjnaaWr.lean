/- BestFrac: the reference's walk. -/
import Derived.Test.YtiobdgnhfecjnaaWc
import Derived.Test.YtiobdgnhfecjnaaWm
import Derived.Test.YtiobdgnhfecjnaaPg
namespace Go.Proofs.Ytiobdgnhfecjnaa
open Go.RowKit
set_option linter.unusedVariables false

/-- What BestFrac gives: nothing for what is not valid; else the first of the best fractions. -/
def BfRes (n d m : Int) (rn rd rc : Int) : Prop :=
  (okF n d = false ∧ rn = 0 ∧ rd = 0 ∧ rc = 1) ∨ (okF n d = true ∧ inB 1 1000000 m = false ∧ rn = 0 ∧ rd = 0 ∧ rc = 2) ∨
  (okF n d = true ∧ inB 1 1000000 m = true ∧ ∃ P Q, BestAt n d (fun _ b => 1 ≤ b ∧ b ≤ m) P Q ∧ rn = mkN P Q ∧ rd = mkD P Q ∧ rc = mkC P Q)
theorem BfRes.unique {n d m a b c a' b' c' : Int} (h : BfRes n d m a b c) (h' : BfRes n d m a' b' c') : a = a' ∧ b = b' ∧ c = c' := by
  rcases h with ⟨h1, rfl, rfl, rfl⟩ | ⟨h1, h2, rfl, rfl, rfl⟩ | ⟨h1, h2, P, Q, hb, rfl, rfl, rfl⟩ <;>
    rcases h' with ⟨k1, rfl, rfl, rfl⟩ | ⟨k1, k2, rfl, rfl, rfl⟩ | ⟨k1, k2, P', Q', hb', rfl, rfl, rfl⟩ <;>
    first
      | exact ⟨rfl, rfl, rfl⟩
      | (exfalso; rw [h1] at k1; simp at k1; done)
      | (exfalso; rw [h2] at k2; simp at k2; done)
      | (obtain ⟨e1, e2⟩ := hb.unique hb' hb'.2.1 hb.2.1; subst e1 e2; exact ⟨rfl, rfl, rfl⟩)
def BfIs (n d m : Int) (w : World) (e : Ending) (w' : World) : Prop :=
  ∃ rn rd rc : Int, e = .returned (.tuple #[.agg #[.int .i64 rn, .int .i64 rd], .int .i64 rc]) ∧ BfRes n d m rn rd rc ∧ Below w.heap.size w w'

/-- A valid fraction whose denominator is allowed is the best of all, and in lowest terms. -/
theorem best_self {n d m : Int} (hok : okF n d = true) (hd : d ≤ m) : BestAt n d (fun _ b => 1 ≤ b ∧ b ≤ m) n d ∧ n = mkN n d ∧ d = mkD n d ∧ (0 : Int) = mkC n d := by
  obtain ⟨d1, d2, n1, n2, g⟩ := okF_inv hok
  have ha : absI d = d := absI_of_nonneg (by omega)
  have hA : mkA n d = absI n := by unfold mkA; rw [ha, g, Int.ediv_one]
  have hB : mkB n d = d := by unfold mkB; rw [ha, g, Int.ediv_one]
  have habs : absI n ≤ 1000000000 := by unfold absI; omega
  have hbad : mkBad n d = false := by simp [mkBad, hA, hB]; omega
  have hd0 : d ≠ 0 := by omega
  refine ⟨⟨d1, ⟨d1, hd⟩, ?_⟩, ?_, ?_, ?_⟩
  · rintro a b ⟨hb1, hbm⟩ _
    have hz : errI n d n d = 0 := by unfold errI; rw [Int.sub_self]; rfl
    rw [hz, Int.zero_mul]
    have he := errI_lo n d a b
    by_cases h0 : errI n d a b = 0
    · right
      have h1 : n * b = a * d := by unfold errI absI at h0; omega
      refine ⟨by rw [h0, Int.zero_mul], ?_⟩
      have hdiv : d ∣ b := by
        have h2 : d ∣ n * b := ⟨a, by rw [h1, Int.mul_comm]⟩
        have h3 : Nat.Coprime d.natAbs n.natAbs := by
          unfold gcdI absI at g
          have : Int.gcd ((n.natAbs : Nat) : Int) d = Nat.gcd n.natAbs d.natAbs := by simp [Int.gcd]
          rw [Nat.coprime_comm]
          show Nat.gcd _ _ = 1
          omega
        have h4 : d.natAbs ∣ n.natAbs * b.natAbs := by rw [← Int.natAbs_mul]; exact Int.natAbs_dvd_natAbs.2 h2
        exact Int.natAbs_dvd_natAbs.1 (h3.dvd_of_dvd_mul_left h4)
      have hle := Int.le_of_dvd (by omega) hdiv
      rcases Int.lt_or_le d b with h4 | h4
      · left; exact h4
      · right
        have hbd : b = d := by omega
        subst hbd
        have : n = a := Int.eq_of_mul_eq_mul_right hd0 h1
        exact ⟨rfl, by omega⟩
    · left
      exact Int.mul_pos (by omega) (by omega)
  · unfold mkN
    rw [if_neg hd0, hbad, hA]
    have hdn : decide (d < 0) = false := by simp; omega
    rw [hdn]
    by_cases hn : n < 0
    · simp [hn]; unfold absI; omega
    · simp [hn]; unfold absI; omega
  · unfold mkD; rw [if_neg hd0, hbad, hB]; rfl
  · unfold mkC; rw [if_neg hd0, hbad]; rfl

/-- Convergents are no greater than the fraction's own numbers allow. -/
theorem cf_bound {N D p q e : Int} (h1 : -1000000000 ≤ N) (h2 : N ≤ 1000000000) (h3 : 1 ≤ D) (hq : 0 ≤ q) (hq' : q ≤ 1000000) (he : N * q - p * D = e) (he1 : -1001000000 ≤ e) (he2 : e ≤ 1001000000) :
    -2000000000000000 ≤ p ∧ p ≤ 2000000000000000 := by
  have hnq : -1000000000000000 ≤ N * q ∧ N * q ≤ 1000000000000000 := by
    have a : (N * q).natAbs ≤ 1000000000 * 1000000 := by rw [Int.natAbs_mul]; exact Nat.mul_le_mul (by omega) (by omega)
    omega
  have hp : (p * D).natAbs ≤ 2000000000000000 := by omega
  rw [Int.natAbs_mul] at hp
  have : p.natAbs * 1 ≤ p.natAbs * D.natAbs := Nat.mul_le_mul_left _ (by omega)
  omega

theorem sgn_in {s x B : Int} (hs : s = 1 ∨ s = -1) (h1 : -B ≤ x) (h2 : x ≤ B) : -B ≤ s * x ∧ s * x ≤ B := by
  rcases hs with rfl | rfl <;> omega
theorem Cf.pb {N D M p0 q0 p1 q1 x y s : Int} (h : Cf N D M p0 q0 p1 q1 x y s) (h1 : -1000000000 ≤ N) (h2 : N ≤ 1000000000) (h3 : 1 ≤ D) (hM : M ≤ 1000000) :
    (-2000000000000000 ≤ p0 ∧ p0 ≤ 2000000000000000) ∧ -2000000000000000 ≤ p1 ∧ p1 ≤ 2000000000000000 := by
  obtain ⟨e1, e0⟩ := h.errs
  have a := sgn_in (x := x) (B := 1000000000) h.sign h.xlo h.xhi
  have b := sgn_in (x := y) (B := 1000000) h.sign (by have := h.ylo; omega) h.yhi
  have := h.q0hi
  have := h.q1hi
  exact ⟨cf_bound h1 h2 h3 h.q0lo (by omega) e0 (by omega) (by omega), cf_bound h1 h2 h3 h.q1lo (by omega) e1 (by omega) (by omega)⟩
theorem Cf.pk {N D M p0 q0 p1 q1 x y s k : Int} (h : Cf N D M p0 q0 p1 q1 x y s) (h1 : -1000000000 ≤ N) (h2 : N ≤ 1000000000) (h3 : 1 ≤ D) (hM : M ≤ 1000000) (hk0 : 0 ≤ k) (hk : k * y ≤ x - y)
    (hq : 1 ≤ q0 + k * q1) (hq' : q0 + k * q1 ≤ M) : -2000000000000000 ≤ p0 + k * p1 ∧ p0 + k * p1 ≤ 2000000000000000 := by
  have e2 : N * (q0 + k * q1) - (p0 + k * p1) * D = s * (x - k * y) := by have := h.det; have := h.num; have := h.den; grind
  have hy := h.ylo
  have hx := h.xhi
  have hky := Int.mul_nonneg hk0 (show 0 ≤ y by omega)
  have a := sgn_in (x := x - k * y) (B := 1000000000) h.sign (by omega) (by omega)
  exact cf_bound h1 h2 h3 (by omega) (by omega) e2 (by omega) (by omega)
theorem fdiv_small {x y : Int} (h1 : -1000000000 ≤ x) (h2 : x ≤ 1000000000) (hy : 1 ≤ y) : -1000000000 ≤ fdiv x y ∧ fdiv x y ≤ 1000000000 := by
  unfold fdiv
  by_cases h0 : 0 ≤ x
  · have a := Int.ediv_nonneg h0 (show 0 ≤ y by omega)
    have b := Int.ediv_le_self y h0
    omega
  · have a : x ≤ x / y := by
      rw [Int.le_ediv_iff_mul_le (by omega)]
      have := Int.mul_le_mul_of_nonpos_left (a := x) (b := y) (c := 1) (by omega) hy
      omega
    have b := Int.ediv_neg_of_neg_of_pos (show x < 0 by omega) (show 0 < y by omega)
    omega
theorem mul_small {a b A B : Int} (ha : -A ≤ a) (ha' : a ≤ A) (hb : -B ≤ b) (hb' : b ≤ B) : -(A * B) ≤ a * b ∧ a * b ≤ A * B := by
  have h : (a * b).natAbs ≤ (A * B).natAbs := by rw [Int.natAbs_mul, Int.natAbs_mul]; exact Nat.mul_le_mul (by omega) (by omega)
  have hAB : 0 ≤ A * B := Int.mul_nonneg (by omega) (by omega)
  omega

set_option maxRecDepth 100000 in
set_option maxHeartbeats 8000000 in
theorem specBest_any (n d m : Int) (w : World) (h : I64 n) (h' : I64 d) (hm : I64 m) :
    Calls Try.prog 34 #[.agg #[.int .i64 n, .int .i64 d], .int .i64 m] w (BfIs n d m w) := by
  have E : ∀ w1 : World, Below ((w.alloc (.cells #[.int .i64 n, .int .i64 d] 25)).alloc (.cells #[.int .i64 0, .int .i64 0] 25)).heap.size ((w.alloc (.cells #[.int .i64 n, .int .i64 d] 25)).alloc (.cells #[.int .i64 0, .int .i64 0] 25)) w1 →
      (w1.cell? ⟨w.heap.size, 0, none⟩ = some (.int .i64 n) ∧ w1.cell? ⟨w.heap.size, 1, none⟩ = some (.int .i64 d)) ∧ (w1.cell? ⟨w.heap.size + 1, 0, none⟩ = some (.int .i64 0) ∧ w1.cell? ⟨w.heap.size + 1, 1, none⟩ = some (.int .i64 0)) ∧
      (w1.frozen? ⟨w.heap.size + 1, 0, none⟩ = false ∧ w1.frozen? ⟨w.heap.size + 1, 1, none⟩ = false) := by
    intro w1 h
    obtain ⟨x1, x2⟩ := bcell h
    exact ⟨⟨(x1 _ _ (by (try simp) <;> omega)).trans (by go_simp), (x1 _ _ (by (try simp) <;> omega)).trans (by go_simp)⟩, ⟨(x1 _ _ (by (try simp) <;> omega)).trans (by go_simp), (x1 _ _ (by (try simp) <;> omega)).trans (by go_simp)⟩, (x2 _ _ (by (try simp) <;> omega)).trans (by go_simp), (x2 _ _ (by (try simp) <;> omega)).trans (by go_simp)⟩
  have HEE := Lib.hid E
  clear E
  cases o1 : okF n d
  · have O1 := Lib.hid o1
    clear o1
    go_enter Try.func34, Try.ntmps34
    go_wp2_with fail
    refine (l02Ok_any n d _ h h').mono ?_
    rw [O1.out]
    rintro e w1 ⟨rfl, hb1⟩
    obtain ⟨⟨en, ed⟩, ⟨e0, e1⟩, f0, f1⟩ := HEE.out w1 hb1
    have hz := hb1.size
    simp at hz
    go_wp2
    refine bodyPost_ret (v := .tuple #[.agg #[.int .i64 0, .int .i64 0], .int .i64 1]) (by simp [results, Try.results34, go_sem, e0, e1]) rfl ⟨0, 0, 1, rfl, .inl ⟨O1.out, rfl, rfl, rfl⟩, ?_⟩
    have hbb := nxt (a := w) (B := w.heap.size) (by (repeat (first | exact Below.refl _ _ | assumption | refine Below.setCell ?_ (by (try simp) <;> omega) _ | refine Below.alloc ?_ (by (try simp) <;> omega) _ | refine below_drewN_ ?_ | refine Below.drew ?_))) hb1 (by simp; omega)
    (repeat (first | exact Below.refl _ _ | assumption | refine Below.setCell ?_ (by (try simp) <;> omega) _ | refine Below.alloc ?_ (by (try simp) <;> omega) _ | refine below_drewN_ ?_ | refine Below.drew ?_))
  have O1 := Lib.hid o1
  cases g : inB 1 1000000 m
  · have G := Lib.hid g
    clear o1 g
    go_enter Try.func34, Try.ntmps34
    go_wp2_with fail
    refine (l02Ok_any n d _ h h').mono ?_
    rw [O1.out]
    rintro e w1 ⟨rfl, hb1⟩
    obtain ⟨⟨en, ed⟩, ⟨e0, e1⟩, f0, f1⟩ := HEE.out w1 hb1
    have hz := hb1.size
    simp at hz
    go_wp2_with (go_at_call 45; refine (l00In_is _ _ _ _ _ G.out).mono ?_; rintro e w' ⟨rfl, rfl⟩)
    refine bodyPost_ret (v := .tuple #[.agg #[.int .i64 0, .int .i64 0], .int .i64 2]) (by simp [results, Try.results34, go_sem, e0, e1]) rfl ⟨0, 0, 2, rfl, .inr (.inl ⟨O1.out, G.out, rfl, rfl, rfl⟩), ?_⟩
    have hbb := nxt (a := w) (B := w.heap.size) (by (repeat (first | exact Below.refl _ _ | assumption | refine Below.setCell ?_ (by (try simp) <;> omega) _ | refine Below.alloc ?_ (by (try simp) <;> omega) _ | refine below_drewN_ ?_ | refine Below.drew ?_))) hb1 (by simp; omega)
    (repeat (first | exact Below.refl _ _ | assumption | refine Below.setCell ?_ (by (try simp) <;> omega) _ | refine Below.alloc ?_ (by (try simp) <;> omega) _ | refine below_drewN_ ?_ | refine Below.drew ?_))
  have G := Lib.hid g
  obtain ⟨m1, m2⟩ := inB_true.1 g
  obtain ⟨d1, d2, n1, n2, hgc⟩ := okF_inv o1
  have HG := Lib.hid hgc
  clear hgc g
  by_cases hdm : d ≤ m
  · have HB := Lib.hid (best_self o1 hdm)
    clear o1
    go_enter Try.func34, Try.ntmps34
    go_wp2_with fail
    refine (l02Ok_any n d _ h h').mono ?_
    rw [O1.out]
    rintro e w1 ⟨rfl, hb1⟩
    obtain ⟨⟨en, ed⟩, ⟨e0, e1⟩, f0, f1⟩ := HEE.out w1 hb1
    have hz := hb1.size
    simp at hz
    go_wp2_with (go_at_call 45; refine (l00In_is _ _ _ _ _ G.out).mono ?_; rintro e w' ⟨rfl, rfl⟩)
    refine bodyPost_ret (v := .tuple #[.agg #[.int .i64 n, .int .i64 d], .int .i64 0]) (by simp [results, Try.results34, go_sem, e0, e1]) rfl ⟨n, d, 0, rfl, .inr (.inr ⟨O1.out, G.out, n, d, HB.out.1, HB.out.2.1, HB.out.2.2.1, HB.out.2.2.2⟩), ?_⟩
    have hbb := nxt (a := w) (B := w.heap.size) (by (repeat (first | exact Below.refl _ _ | assumption | refine Below.setCell ?_ (by (try simp) <;> omega) _ | refine Below.alloc ?_ (by (try simp) <;> omega) _ | refine below_drewN_ ?_ | refine Below.drew ?_))) hb1 (by simp; omega)
    (repeat (first | exact Below.refl _ _ | assumption | refine Below.setCell ?_ (by (try simp) <;> omega) _ | refine Below.alloc ?_ (by (try simp) <;> omega) _ | refine below_drewN_ ?_ | refine Below.drew ?_))
  · clear o1
    go_enter Try.func34, Try.ntmps34
    go_wp2_with fail
    refine (l02Ok_any n d _ h h').mono ?_
    rw [O1.out]
    rintro e w1 ⟨rfl, hb1⟩
    obtain ⟨⟨en, ed⟩, ⟨e0, e1⟩, f0, f1⟩ := HEE.out w1 hb1
    have hz := hb1.size
    simp at hz
    go_wp2_with (go_at_call 45; refine (l00In_is _ _ _ _ _ G.out).mono ?_; rintro e w' ⟨rfl, rfl⟩)
    go_loop [6, 7, 8, 9, 10, 11, 12, 13, 14, 15] (fun a0 b0 a1 b1 a2 b2 _ _ _ _ => ∃ p0 q0 p1 q1 x y s : Int, a0 = .int .i64 p0 ∧ b0 = .int .i64 q0 ∧ a1 = .int .i64 p1 ∧ b1 = .int .i64 q1 ∧ a2 = .int .i64 x ∧ b2 = .int .i64 y ∧ Cf n d m p0 q0 p1 q1 x y s) (fun _ _ _ _ _ y _ _ _ _ => (intOf y).toNat)
    case atStart => exact ⟨0, 1, 1, 0, n, d, 1, rfl, rfl, rfl, rfl, rfl, rfl, Cf.begin n1 n2 d1 d2 m1⟩
    case round =>
      obtain ⟨p0, q0, p1, q1, x, y, s, rfl, rfl, rfl, rfl, rfl, rfl, hcf⟩ := hrel
      have CF := Lib.hid hcf
      obtain ⟨⟨p0l, p0h⟩, p1l, p1h⟩ := hcf.pb n1 n2 d1 m2
      have ylo := hcf.ylo
      have yhi := hcf.yhi
      have xlo := hcf.xlo
      have xhi := hcf.xhi
      have q0lo := hcf.q0lo
      have q0hi := hcf.q0hi
      have q1lo := hcf.q1lo
      have q1hi := hcf.q1hi
      clear hcf
      obtain ⟨tl, th⟩ := fdiv_small xlo xhi ylo
      obtain ⟨tq1, tq2⟩ := mul_small (A := 1000000000) (B := 1000000) tl th (show -1000000 ≤ q1 by omega) (by omega)
      obtain ⟨rl, rh⟩ := sdiv_lo (x := x) ylo
      by_cases ht : q0 + fdiv x y * q1 ≤ m
      · have hst := CF.out.step (by omega) HG.out ht
        have HST := Lib.hid hst
        obtain ⟨-, np1l, np1h⟩ := hst.pb n1 n2 d1 m2
        clear hst
        go_wp2_with (go_at_call 42; refine (l02Div_any x y _ ⟨by omega, by omega⟩ ylo (by omega)).mono ?_; rintro e w' ⟨rfl, rfl⟩)
        go_round
        case rel => exact ⟨_, _, _, _, _, _, _, rfl, rfl, rfl, rfl, rfl, rfl, HST.out⟩
        case measure => simp [intOf]; omega
      · obtain ⟨hq1, hf, hqp, hqm, hk0, hk1, hke, hA, hB⟩ := CF.out.stop m1 (by omega)
        have HA := Lib.hid hA
        have HB := Lib.hid hB
        clear hA hB
        obtain ⟨pk1, pk2⟩ := CF.out.pk n1 n2 d1 m2 hk0 hke hqp hqm
        have hkq := mul_small (A := 2000000) (B := 1000000) (show -2000000 ≤ (m - q0) / q1 by omega) (by omega) (show -1000000 ≤ q1 by omega) (by omega)
        obtain ⟨kq1, kq2⟩ := hkq
        obtain ⟨nq1, nq2⟩ := mul_small (A := 1000000000) (B := 1000000) n1 n2 (show -1000000 ≤ q1 by omega) (by omega)
        obtain ⟨sy1, sy2⟩ := sgn_in (x := y) (B := 1000000) CF.out.sign (by omega) yhi
        have her := CF.out.errs.1
        have pd1 : -1000000001000000 ≤ p1 * d := by omega
        have pd2 : p1 * d ≤ 1000000001000000 := by omega
        clear her
        obtain ⟨ty1, ty2⟩ := mul_small (A := 2000000) (B := 1000000) (a := 2 * y) (b := q0 + (m - q0) / q1 * q1) (by omega) (by omega) (by omega) (by omega)
        have hsg : p1 * d - n * q1 = -y ∨ p1 * d - n * q1 = y := by unfold absI at hf; omega
        clear hf
        have hkp1 : -4000000000000000 ≤ (m - q0) / q1 * p1 := by omega
        have hkp2 : (m - q0) / q1 * p1 ≤ 4000000000000000 := by omega
        by_cases hle : 2 * y * (q0 + (m - q0) / q1 * q1) ≤ d
        · have HSEL := Lib.hid (HA.out hle)
          rcases hsg with hE | hE
          all_goals
            go_wp2_with (go_at_call 42; refine (l02Div_any x y _ ⟨by omega, by omega⟩ ylo (by omega)).mono ?_; rintro e w' ⟨rfl, rfl⟩)
            refine (specMake_any _ _ _ ⟨by omega, by omega⟩ ⟨by omega, by omega⟩).mono ?_
            rintro e w2 ⟨rfl, hb2⟩
            obtain ⟨y1, y2⟩ := bcell hb2
            have hz2 := hb2.size
            have k0 := (y1 _ 0 (by omega)).trans e0
            have k1 := (y1 _ 1 (by omega)).trans e1
            have l0 := (y2 _ 0 (by omega)).trans f0
            have l1 := (y2 _ 1 (by omega)).trans f1
            clear y1 y2
            go_wp2
            refine bodyPost_ret (v := .tuple #[.agg #[.int .i64 (mkN p1 q1), .int .i64 (mkD p1 q1)], .int .i64 (mkC p1 q1)]) (by simp [results, Try.results34, go_sem, k0, k1]) rfl ⟨_, _, _, rfl, .inr (.inr ⟨O1.out, G.out, _, _, HSEL.out, rfl, rfl, rfl⟩), ?_⟩
            have hbb := nxt (nxt (a := w) (B := w.heap.size) (by (repeat (first | exact Below.refl _ _ | assumption | refine Below.setCell ?_ (by (try simp) <;> omega) _ | refine Below.alloc ?_ (by (try simp) <;> omega) _ | refine below_drewN_ ?_ | refine Below.drew ?_))) hb1 (by simp; omega)) hb2 (by omega)
            (repeat (first | exact Below.refl _ _ | assumption | refine Below.setCell ?_ (by (try simp) <;> omega) _ | refine Below.alloc ?_ (by (try simp) <;> omega) _ | refine below_drewN_ ?_ | refine Below.drew ?_))
        · have HSEL := Lib.hid (HB.out (by omega))
          have hgt : d < 2 * y * (q0 + (m - q0) / q1 * q1) := by omega
          rcases hsg with hE | hE
          all_goals
            go_wp2_with (go_at_call 42; refine (l02Div_any x y _ ⟨by omega, by omega⟩ ylo (by omega)).mono ?_; rintro e w' ⟨rfl, rfl⟩)
            refine (specMake_any _ _ _ ⟨by omega, by omega⟩ ⟨by omega, by omega⟩).mono ?_
            rintro e w2 ⟨rfl, hb2⟩
            obtain ⟨y1, y2⟩ := bcell hb2
            have hz2 := hb2.size
            have k0 := (y1 _ 0 (by omega)).trans e0
            have k1 := (y1 _ 1 (by omega)).trans e1
            have l0 := (y2 _ 0 (by omega)).trans f0
            have l1 := (y2 _ 1 (by omega)).trans f1
            clear y1 y2
            go_wp2
            refine bodyPost_ret (v := .tuple #[.agg #[.int .i64 (mkN (p0 + (m - q0) / q1 * p1) (q0 + (m - q0) / q1 * q1)), .int .i64 (mkD (p0 + (m - q0) / q1 * p1) (q0 + (m - q0) / q1 * q1))], .int .i64 (mkC (p0 + (m - q0) / q1 * p1) (q0 + (m - q0) / q1 * q1))]) (by simp [results, Try.results34, go_sem, k0, k1]) rfl ⟨_, _, _, rfl, .inr (.inr ⟨O1.out, G.out, _, _, HSEL.out, rfl, rfl, rfl⟩), ?_⟩
            have hbb := nxt (nxt (a := w) (B := w.heap.size) (by (repeat (first | exact Below.refl _ _ | assumption | refine Below.setCell ?_ (by (try simp) <;> omega) _ | refine Below.alloc ?_ (by (try simp) <;> omega) _ | refine below_drewN_ ?_ | refine Below.drew ?_))) hb1 (by simp; omega)) hb2 (by omega)
            (repeat (first | exact Below.refl _ _ | assumption | refine Below.setCell ?_ (by (try simp) <;> omega) _ | refine Below.alloc ?_ (by (try simp) <;> omega) _ | refine below_drewN_ ?_ | refine Below.drew ?_))

end Go.Proofs.Ytiobdgnhfecjnaa
