/- BestFrac: the program's walk, and the law. -/
import Derived.Test.YtiobdgnhfecjnaaWr
import Derived.Test.YtiobdgnhfecjnaaPh
import Derived.Test.YtiobdgnhfecjnaaWd
namespace Go.Proofs.Ytiobdgnhfecjnaa
open Go.RowKit
set_option linter.unusedVariables false

def BfResI (n d m : Int) (rn rd rc : Int) : Prop :=
  (okF n d = false ∧ rn = 0 ∧ rd = 0 ∧ rc = 1) ∨ (okF n d = true ∧ inB 1 1000000 m = false ∧ rn = 0 ∧ rd = 0 ∧ rc = 2) ∨
  (okF n d = true ∧ inB 1 1000000 m = true ∧ ∃ P Q, BestAt n d (CandM n d m) P Q ∧ rn = mkN P Q ∧ rd = mkD P Q ∧ rc = mkC P Q)
theorem BfRes.same {n d m a b c a' b' c' : Int} (h : BfRes n d m a b c) (h' : BfResI n d m a' b' c') : a = a' ∧ b = b' ∧ c = c' := by
  rcases h with ⟨h1, rfl, rfl, rfl⟩ | ⟨h1, h2, rfl, rfl, rfl⟩ | ⟨h1, h2, P, Q, hb, rfl, rfl, rfl⟩ <;>
    rcases h' with ⟨k1, rfl, rfl, rfl⟩ | ⟨k1, k2, rfl, rfl, rfl⟩ | ⟨k1, k2, P', Q', hb', rfl, rfl, rfl⟩ <;>
    first
      | exact ⟨rfl, rfl, rfl⟩
      | (exfalso; rw [h1] at k1; simp at k1; done)
      | (exfalso; rw [h2] at k2; simp at k2; done)
      | (obtain ⟨e1, e2⟩ := hb.unique hb' ⟨hb'.1, hb'.2.1.2.1⟩ (best_cand (okF_inv h1).1 hb); subst e1 e2; exact ⟨rfl, rfl, rfl⟩)
def BfIsI (n d m : Int) (w : World) (e : Ending) (w' : World) : Prop :=
  ∃ rn rd rc : Int, e = .returned (.tuple #[.agg #[.int .i64 rn, .int .i64 rd], .int .i64 rc]) ∧ BfResI n d m rn rd rc ∧ Below w.heap.size w w'

theorem low_any (n d den : Int) (w : World) (h : I64 (n * den)) (h' : 1 ≤ d) (h'' : d ≤ 9223372036854775807) :
    Calls Try.prog 44 #[.int .i64 (n * den), .int .i64 d] w fun e w' => e = .returned (.int .i64 (lowF n d den)) ∧ w = w' := floorDiv_any (n * den) d w h h' h''
set_option maxRecDepth 100000 in
set_option maxHeartbeats 8000000 in
theorem implBest_any (n d m : Int) (w : World) (h : I64 n) (h' : I64 d) (hm : I64 m) :
    Calls Try.prog 35 #[.agg #[.int .i64 n, .int .i64 d], .int .i64 m] w (BfIsI n d m w) := by
  have E : ∀ w1 : World, Below ((w.alloc (.cells #[.int .i64 n, .int .i64 d] 25)).alloc (.cells #[.int .i64 0, .int .i64 0] 25)).heap.size ((w.alloc (.cells #[.int .i64 n, .int .i64 d] 25)).alloc (.cells #[.int .i64 0, .int .i64 0] 25)) w1 →
      (w1.cell? ⟨w.heap.size, 0, none⟩ = some (.int .i64 n) ∧ w1.cell? ⟨w.heap.size, 1, none⟩ = some (.int .i64 d)) ∧ (w1.cell? ⟨w.heap.size + 1, 0, none⟩ = some (.int .i64 0) ∧ w1.cell? ⟨w.heap.size + 1, 1, none⟩ = some (.int .i64 0)) ∧
      (w1.frozen? ⟨w.heap.size + 1, 0, none⟩ = false ∧ w1.frozen? ⟨w.heap.size + 1, 1, none⟩ = false) := by
    intro w1 h
    obtain ⟨x1, x2⟩ := bcell h
    exact ⟨⟨(x1 _ _ (by (try simp) <;> omega)).trans (by go_simp), (x1 _ _ (by (try simp) <;> omega)).trans (by go_simp)⟩, ⟨(x1 _ _ (by (try simp) <;> omega)).trans (by go_simp), (x1 _ _ (by (try simp) <;> omega)).trans (by go_simp)⟩, (x2 _ _ (by (try simp) <;> omega)).trans (by go_simp), (x2 _ _ (by (try simp) <;> omega)).trans (by go_simp)⟩
  have HEE := Lib.hid E
  clear E
  cases o1 : okF n d
  · have O1 := Lib.hid o1
    clear o1
    go_enter Try.func35, Try.ntmps35
    go_wp2_with fail
    refine (isFrac_any n d _ h h').mono ?_
    rw [O1.out]
    rintro e w1 ⟨rfl, hb1⟩
    obtain ⟨⟨en, ed⟩, ⟨e0, e1⟩, f0, f1⟩ := HEE.out w1 hb1
    have hz := hb1.size
    simp at hz
    go_wp2
    refine bodyPost_ret (v := .tuple #[.agg #[.int .i64 0, .int .i64 0], .int .i64 1]) (by simp [results, Try.results35, go_sem, e0, e1]) rfl ⟨0, 0, 1, rfl, .inl ⟨O1.out, rfl, rfl, rfl⟩, ?_⟩
    have hbb := nxt (a := w) (B := w.heap.size) (by (repeat (first | exact Below.refl _ _ | assumption | refine Below.setCell ?_ (by (try simp) <;> omega) _ | refine Below.alloc ?_ (by (try simp) <;> omega) _ | refine below_drewN_ ?_ | refine Below.drew ?_))) hb1 (by simp; omega)
    (repeat (first | exact Below.refl _ _ | assumption | refine Below.setCell ?_ (by (try simp) <;> omega) _ | refine Below.alloc ?_ (by (try simp) <;> omega) _ | refine below_drewN_ ?_ | refine Below.drew ?_))
  have O1 := Lib.hid o1
  cases g : inB 1 1000000 m
  · have G := Lib.hid g
    clear o1 g
    go_enter Try.func35, Try.ntmps35
    go_wp2_with fail
    refine (isFrac_any n d _ h h').mono ?_
    rw [O1.out]
    rintro e w1 ⟨rfl, hb1⟩
    obtain ⟨⟨en, ed⟩, ⟨e0, e1⟩, f0, f1⟩ := HEE.out w1 hb1
    have hz := hb1.size
    simp at hz
    go_wp2_with (go_at_call 46; refine (within_is _ _ _ _ _ G.out).mono ?_; rintro e w' ⟨rfl, rfl⟩)
    refine bodyPost_ret (v := .tuple #[.agg #[.int .i64 0, .int .i64 0], .int .i64 2]) (by simp [results, Try.results35, go_sem, e0, e1]) rfl ⟨0, 0, 2, rfl, .inr (.inl ⟨O1.out, G.out, rfl, rfl, rfl⟩), ?_⟩
    have hbb := nxt (a := w) (B := w.heap.size) (by (repeat (first | exact Below.refl _ _ | assumption | refine Below.setCell ?_ (by (try simp) <;> omega) _ | refine Below.alloc ?_ (by (try simp) <;> omega) _ | refine below_drewN_ ?_ | refine Below.drew ?_))) hb1 (by simp; omega)
    (repeat (first | exact Below.refl _ _ | assumption | refine Below.setCell ?_ (by (try simp) <;> omega) _ | refine Below.alloc ?_ (by (try simp) <;> omega) _ | refine below_drewN_ ?_ | refine Below.drew ?_))
  have G := Lib.hid g
  obtain ⟨m1, m2⟩ := inB_true.1 g
  obtain ⟨d1, d2, n1, n2, hgc⟩ := okF_inv o1
  have HG := Lib.hid hgc
  clear hgc g
  clear o1
  go_enter Try.func35, Try.ntmps35
  go_wp2_with fail
  refine (isFrac_any n d _ h h').mono ?_
  rw [O1.out]
  rintro e w1 ⟨rfl, hb1⟩
  obtain ⟨⟨en, ed⟩, ⟨e0, e1⟩, f0, f1⟩ := HEE.out w1 hb1
  have hz := hb1.size
  simp at hz
  go_wp2_with (go_at_call 46; refine (within_is _ _ _ _ _ G.out).mono ?_; rintro e w' ⟨rfl, rfl⟩)
  go_loopw [7, 8, 9, 10, 11, 12] (fun f b dn _ _ _ wr => ∃ (P Q F den : Int) (bb : Bool), f = .int .i64 F ∧ b = .bool bb ∧ dn = .int .i64 den ∧ wr = w1.alloc (.cells #[.int .i64 P, .int .i64 Q] 25) ∧ Srch n d den (lowF n d den) P Q F bb ∧ 1 ≤ den ∧ den ≤ m + 1 ∧ den ≤ d + 1 ∧
      0 ≤ Q ∧ Q ≤ 1000000 ∧ 0 ≤ F ∧ F ≤ 1000000 ∧ -4000000000000000 ≤ P ∧ P ≤ 4000000000000000) (fun _ _ dn _ _ _ _ => (m + 1 - intOf dn).toNat)
  case atStart => exact ⟨0, 0, 0, 1, false, rfl, rfl, rfl, rfl, .inl ⟨rfl, rfl, rfl⟩, by omega, by omega, by omega, by omega, by omega, by omega, by omega, by omega, by omega⟩
  case round =>
    obtain ⟨P, Q, F, den, bb, rfl, rfl, rfl, rfl, hs, b1, b2, b3, q1, q2, f1', f2', p1, p2⟩ := hrel
    have HSR := Lib.hid hs
    clear hs
    have bx0 : ∀ P Q : Int, (w1.alloc (.cells #[.int .i64 P, .int .i64 Q] 25)).cell? ⟨w.heap.size, 0, none⟩ = some (.int .i64 n) := fun P Q => (World.cell?_alloc_lt w1 _ _ (by show w.heap.size < _; omega)).trans en
    have bx1 : ∀ P Q : Int, (w1.alloc (.cells #[.int .i64 P, .int .i64 Q] 25)).cell? ⟨w.heap.size, 1, none⟩ = some (.int .i64 d) := fun P Q => (World.cell?_alloc_lt w1 _ _ (by show w.heap.size < _; omega)).trans ed
    have g0 := bx0 P Q
    have g1 := bx1 P Q
    have BX0 := Lib.hid bx0
    have BX1 := Lib.hid bx1
    clear bx0 bx1
    by_cases hgo : den ≤ m ∧ den ≤ d
    · obtain ⟨hgm, hgd⟩ := hgo
      obtain ⟨nd1, nd2⟩ := mul_small (A := 1000000000) (B := 1000000) n1 n2 (show -1000000 ≤ den by omega) (by omega)
      obtain ⟨lo1, lo2⟩ := low_spec (n := n) (b := den) d1
      obtain ⟨fl1, fl2⟩ := fdiv_in (a := n * den) (b := d) (by omega) (by omega) d1
      have hlm1 : -2000000000000000 ≤ lowF n d den ∧ lowF n d den ≤ 2000000000000000 := by
        have ha : (lowF n d den * d).natAbs ≤ 2000000000000000 := by omega
        rw [Int.natAbs_mul] at ha
        have := Nat.mul_le_mul_left (lowF n d den).natAbs (show 1 ≤ d.natAbs by omega)
        omega
      obtain ⟨lm1, lm2⟩ := hlm1
      clear fl1 fl2
      go_wp2_with (go_at_call 44; refine (low_any n d den _ ⟨by omega, by omega⟩ d1 (by omega)).mono ?_; rintro e w' ⟨rfl, rfl⟩)
      go_loopw [7, 8, 11, 12] (fun f b nm _ wr => ∃ (P Q F num : Int) (bb : Bool), f = .int .i64 F ∧ b = .bool bb ∧ nm = .int .i64 num ∧ wr = w1.alloc (.cells #[.int .i64 P, .int .i64 Q] 25) ∧ Srch n d den num P Q F bb ∧ lowF n d den ≤ num ∧ num ≤ lowF n d den + 2 ∧
          0 ≤ Q ∧ Q ≤ 1000000 ∧ 0 ≤ F ∧ F ≤ 1000000 ∧ -4000000000000000 ≤ P ∧ P ≤ 4000000000000000) (fun _ _ nm _ _ => (lowF n d den + 2 - intOf nm).toNat)
      case atStart => exact ⟨P, Q, F, lowF n d den, bb, rfl, rfl, rfl, rfl, HSR.out, by omega, by omega, q1, q2, f1', f2', p1, p2⟩
      case round =>
        clear HSR q1 q2 f1' f2' p1 p2 g0 g1
        obtain ⟨P, Q, F, num, bb, rfl, rfl, rfl, rfl, hs, c1, c2, q1, q2, f1', f2', p1, p2⟩ := hrel
        have HSR := Lib.hid hs
        have g0 := BX0.out P Q
        have g1 := BX1.out P Q
        by_cases hin : num ≤ lowF n d den + 1
        · have hnum : num = lowF n d den ∨ num = lowF n d den + 1 := by omega
          have hnd : num * d = lowF n d den * d ∨ num * d = lowF n d den * d + d := by
            rcases hnum with h0 | h0
            · left; rw [h0]
            · right; rw [h0, Int.add_mul, Int.one_mul]
          have hsg : (n * den - num * d = -(errI n d num den) ∧ n * den - num * d < 0) ∨ (n * den - num * d = errI n d num den ∧ 0 ≤ n * den - num * d) := by unfold errI absI; omega
          have he1 := errI_lo n d num den
          have he2 : errI n d num den ≤ 1000000 := by omega
          have md1 : -2000000000000000 ≤ num * d := by omega
          have md2 : num * d ≤ 2000000000000000 := by omega
          have HN := Lib.hid hnum
          clear hnum hnd hs
          obtain ⟨eq1, eq2⟩ := mul_small (A := 1000000) (B := 1000000) (a := errI n d num den) (b := Q) (by omega) he2 (by omega) q2
          obtain ⟨fd1, fd2⟩ := mul_small (A := 1000000) (B := 1000000) (a := F) (b := den) (by omega) f2' (by omega) (by omega)
          have HTK : Hid (bb = false ∨ errI n d num den * Q < F * den → Srch n d den (num + 1) num den (errI n d num den) true) := HSR.out.take b1 HN.out
          have HKP : Hid (bb = true → F * den ≤ errI n d num den * Q → Srch n d den (num + 1) P Q F true) := HSR.out.keep b1 HN.out
          generalize errI n d num den = ee at *
          cases bb
          · have S := Lib.hid (HTK.out (.inl rfl))
            rcases hsg with ⟨hE, hE'⟩ | ⟨hE, hE'⟩
            all_goals
              rw [hE] at hE'
              go_wp2
              go_roundw
              case rel => exact ⟨num, den, ee, num + 1, true, rfl, rfl, rfl, rfl, S.out, by omega, by omega, by omega, by omega, by omega, by omega, by omega, by omega⟩
              case measure => simp [intOf]; omega
          · by_cases hlt : ee * Q < F * den
            · have S := Lib.hid (HTK.out (.inr hlt))
              rcases hsg with ⟨hE, hE'⟩ | ⟨hE, hE'⟩
              all_goals
                rw [hE] at hE'
                go_wp2
                go_roundw
                case rel => exact ⟨num, den, ee, num + 1, true, rfl, rfl, rfl, rfl, S.out, by omega, by omega, by omega, by omega, by omega, by omega, by omega, by omega⟩
                case measure => simp [intOf]; omega
            · have S := Lib.hid (HKP.out rfl (by omega))
              have hge : F * den ≤ ee * Q := by omega
              have hlt' : decide (ee * Q < F * den) = false := by simp; omega
              rcases hsg with ⟨hE, hE'⟩ | ⟨hE, hE'⟩
              all_goals
                rw [hE] at hE'
                go_wp2
                go_roundw
                case rel => exact ⟨P, Q, F, num + 1, true, rfl, rfl, rfl, rfl, S.out, by omega, by omega, q1, q2, f1', f2', p1, p2⟩
                case measure => simp [intOf]; omega
        · obtain rfl : num = lowF n d den + 2 := by omega
          have hbb : bb = true := by
            rcases hs with ⟨_, h2, h3⟩ | ⟨h1, _⟩
            · subst h2; omega
            · exact h1
          subst hbb
          have S := Lib.hid (hs.next b1)
          clear hs
          go_wp2
          go_roundw
          case rel => exact ⟨P, Q, F, den + 1, true, rfl, rfl, rfl, rfl, S.out, by omega, by omega, by omega, q1, q2, f1', f2', p1, p2⟩
          case measure => simp [intOf]; omega
    · have S := Lib.hid (HSR.out.done m1 d1 b2 b3 (by omega))
      have c0' : (w1.alloc (.cells #[.int .i64 P, .int .i64 Q] 25)).heap.size = w1.heap.size + 1 := by simp
      have t0 : (w1.alloc (.cells #[.int .i64 P, .int .i64 Q] 25)).cell? ⟨w.heap.size + 1, 0, none⟩ = some (.int .i64 0) := (World.cell?_alloc_lt w1 _ _ (by show w.heap.size + 1 < _; omega)).trans e0
      have t1 : (w1.alloc (.cells #[.int .i64 P, .int .i64 Q] 25)).cell? ⟨w.heap.size + 1, 1, none⟩ = some (.int .i64 0) := (World.cell?_alloc_lt w1 _ _ (by show w.heap.size + 1 < _; omega)).trans e1
      have u0 : (w1.alloc (.cells #[.int .i64 P, .int .i64 Q] 25)).frozen? ⟨w.heap.size + 1, 0, none⟩ = false := ((bcell (Below.alloc (Below.refl w1.heap.size w1) (Nat.le_refl _) _)).2 _ 0 (by omega)).trans f0
      have u1 : (w1.alloc (.cells #[.int .i64 P, .int .i64 Q] 25)).frozen? ⟨w.heap.size + 1, 1, none⟩ = false := ((bcell (Below.alloc (Below.refl w1.heap.size w1) (Nat.le_refl _) _)).2 _ 1 (by omega)).trans f1
      have HM : Hid (m < den ∨ d < den) := by show m < den ∨ d < den; omega
      have dec : (den ≤ m) ∧ decide (den ≤ d) = false ∨ decide (den ≤ m) = false ∧ m < den := by simp; omega
      clear hgo
      rcases dec with ⟨dm, dd⟩ | ⟨dm, dd⟩
      all_goals
        go_wp2_with fail
        refine (implMake_any _ _ _ ⟨by omega, by omega⟩ ⟨by omega, by omega⟩).mono ?_
        rintro e w2 ⟨rfl, hb2⟩
        obtain ⟨y1, y2⟩ := bcell hb2
        have hz2 := hb2.size
        simp at hz2
        have k0 := (y1 _ 0 (by (try simp) <;> omega)).trans t0
        have k1 := (y1 _ 1 (by (try simp) <;> omega)).trans t1
        have l0 := (y2 _ 0 (by (try simp) <;> omega)).trans u0
        have l1 := (y2 _ 1 (by (try simp) <;> omega)).trans u1
        clear y1 y2
        go_wp2
        refine bodyPost_ret (v := .tuple #[.agg #[.int .i64 (mkN P Q), .int .i64 (mkD P Q)], .int .i64 (mkC P Q)]) (by simp [results, Try.results35, go_sem, k0, k1]) rfl ⟨_, _, _, rfl, .inr (.inr ⟨O1.out, G.out, _, _, S.out, rfl, rfl, rfl⟩), ?_⟩
        have hbb := nxt (Below.alloc (nxt (a := w) (B := w.heap.size) (by (repeat (first | exact Below.refl _ _ | assumption | refine Below.setCell ?_ (by (try simp) <;> omega) _ | refine Below.alloc ?_ (by (try simp) <;> omega) _ | refine below_drewN_ ?_ | refine Below.drew ?_))) hb1 (by simp; omega)) (by omega) _) hb2 (by simp; omega)
        (repeat (first | exact Below.refl _ _ | assumption | refine Below.setCell ?_ (by (try simp) <;> omega) _ | refine Below.alloc ?_ (by (try simp) <;> omega) _ | refine below_drewN_ ?_ | refine Below.drew ?_))

end Go.Proofs.Ytiobdgnhfecjnaa
