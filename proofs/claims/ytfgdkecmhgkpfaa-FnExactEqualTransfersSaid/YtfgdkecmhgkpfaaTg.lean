/- Walks: several transfer functions valid; results of two lists. -/
import Derived.Test.YtfgdkecmhgkpfaaTb
import Derived.Test.YtfgdkecmhgkpfaaTc
namespace Go.Proofs.Ytfgdkecmhgkpfaa
open Go.RowKit
set_option linter.unusedVariables false
set_option linter.unusedSimpArgs false

/-- A transfer function of two lists, or a code if one of them is too long. -/
def makeR (xs ys : List Int) : (List Int × List Int) × Int := if 65 < xs.length ∨ 65 < ys.length then (([], []), 5) else ((xs, ys), 0)
theorem makeR_big {xs ys : List Int} (h : 65 < xs.length ∨ 65 < ys.length) : (([], []), 5) = makeR xs ys := (if_pos h).symm
theorem makeR_ok {xs ys : List Int} (h : ¬ 65 < xs.length) (h' : ¬ 65 < ys.length) : ((xs, ys), 0) = makeR xs ys := (if_neg (by omega)).symm

set_option maxHeartbeats 1000000 in
theorem areTransfers_any (g : Nat) (A : Option Addr) (c : Nat) (xs : List Int) (B : Option Addr) (d : Nat) (ys : List Int) (A2 : Option Addr) (c2 : Nat) (us : List Int) (B2 : Option Addr) (d2 : Nat) (vs : List Int) (w : World) (hg : g < w.heap.size)
    (h : Arg w A c xs) (h2 : Arg w B d ys) (h3 : Arg w A2 c2 us) (h4 : Arg w B2 d2 vs)
    (c0 : w.cell? ⟨g, 0, none⟩ = some (.slice A xs.length c)) (c1 : w.cell? ⟨g, 1, none⟩ = some (.slice B ys.length d)) (c3 : w.cell? ⟨g, 2, none⟩ = some (.slice A2 us.length c2)) (c4 : w.cell? ⟨g, 3, none⟩ = some (.slice B2 vs.length d2)) :
    Calls Try.prog 33 #[.slice (some ⟨g, 0, none⟩) 2 2] w fun e w' => e = .returned (.bool (trB xs ys && trB us vs)) ∧ Below w.heap.size w w' := by
  have T1 : Hid (∀ wx, Below w.heap.size w wx → Calls Try.prog 38 #[.agg #[.slice A xs.length c, .slice B ys.length d]] wx fun e w' => e = .returned (.bool (trB xs ys)) ∧ Below wx.heap.size wx w') := fun wx hx => isTransfer_any A c xs B d ys wx (h.below hx) (h2.below hx)
  have T2 : Hid (∀ wx, Below w.heap.size w wx → Calls Try.prog 38 #[.agg #[.slice A2 us.length c2, .slice B2 vs.length d2]] wx fun e w' => e = .returned (.bool (trB us vs)) ∧ Below wx.heap.size wx w') := fun wx hx => isTransfer_any A2 c2 us B2 d2 vs wx (h3.below hx) (h4.below hx)
  clear h h2 h3 h4
  have C0 := Lib.hid c0
  have C1 := Lib.hid c1
  have C3 := Lib.hid c3
  have C4 := Lib.hid c4
  clear c0 c1 c3 c4
  generalize trB xs ys = b at *
  generalize trB us vs = b2 at *
  generalize xs.length = n at *
  generalize ys.length = m at *
  generalize us.length = n2 at *
  generalize vs.length = m2 at *
  go_enter Try.func33, Try.ntmps33
  go_wp2_with fail
  go_loopw [4, 7] (fun _ t wr => ∃ k : Nat, k ≤ 2 ∧ t = .int .i64 k ∧ Below w.heap.size w wr ∧ (0 < k → b = true) ∧ (1 < k → b2 = true)) (fun _ t _ => 2 - (intOf t).toNat)
  case atStart => exact ⟨0, by omega, rfl, Below.refl _ _, by omega, by omega⟩
  case round =>
    obtain ⟨k, hk, rfl, hbr, hk0, hk1⟩ := hrel
    have hsz := hbr.size
    have e0 := ((bcell hbr).1 g 0 hg).trans C0.out
    have e1 := ((bcell hbr).1 g 1 hg).trans C1.out
    have e2 := ((bcell hbr).1 g 2 hg).trans C3.out
    have e3 := ((bcell hbr).1 g 3 hg).trans C4.out
    have K0 := Lib.hid hk0
    have K1 := Lib.hid hk1
    clear hk0 hk1
    obtain rfl | rfl | rfl : k = 0 ∨ k = 1 ∨ k = 2 := by omega
    · cases b
      · go_wp2_with fail
        refine (T1.out _ (hbr.alloc hsz _)).mono ?_
        rintro e w1 ⟨rfl, hb1⟩
        go_wp2
        go_ret
        exact ⟨rfl, nxt (hbr.alloc hsz _) hb1 (by (first | (simp; done) | omega | (simp; omega)))⟩
      · go_wp2_with fail
        refine (T1.out _ (hbr.alloc hsz _)).mono ?_
        rintro e w1 ⟨rfl, hb1⟩
        go_wp2
        go_roundw
        case rel => exact ⟨1, by omega, rfl, nxt (hbr.alloc hsz _) hb1 (by (first | (simp; done) | omega | (simp; omega))), fun _ => by simp, by omega⟩
        case measure => simp [intOf]
    · have g1 := K0.out (by omega)
      subst g1
      cases b2
      · go_wp2_with fail
        refine (T2.out _ (hbr.alloc hsz _)).mono ?_
        rintro e w1 ⟨rfl, hb1⟩
        go_wp2
        go_ret
        exact ⟨rfl, nxt (hbr.alloc hsz _) hb1 (by (first | (simp; done) | omega | (simp; omega)))⟩
      · go_wp2_with fail
        refine (T2.out _ (hbr.alloc hsz _)).mono ?_
        rintro e w1 ⟨rfl, hb1⟩
        go_wp2
        go_roundw
        case rel => exact ⟨2, by omega, rfl, nxt (hbr.alloc hsz _) hb1 (by (first | (simp; done) | omega | (simp; omega))), fun _ => by simp, fun _ => by simp⟩
        case measure => simp [intOf]
    · have g1 := K0.out (by omega)
      have g2 := K1.out (by omega)
      subst g1 g2
      go_wp2
      go_ret
      exact ⟨rfl, hbr⟩
theorem toldT_big (A : Option Addr) (n c : Nat) (B : Option Addr) (m d : Nat) (w : World) (h : 65 < n ∨ 65 < m) : Calls Try.prog 48 #[.slice A n c, .slice B m d] w fun e w' => e = .returned (.tuple #[.agg #[.slice none 0 0, .slice none 0 0], .int .i64 5]) ∧ Below w.heap.size w w' := by
  rcases Nat.lt_or_ge 65 n with h1 | h1
  · clear h
    go_enter Try.func48, Try.ntmps48
    go_wp2
    refine bodyPost_ret (v := .tuple #[.agg #[.slice none 0 0, .slice none 0 0], .int .i64 5]) (by simp [results, Try.results48, go_sem]) rfl ⟨rfl, by (repeat (first | exact Below.refl _ _ | assumption | refine Below.setCell ?_ (by (try simp) <;> omega) _ | refine Below.alloc ?_ (by (try simp) <;> omega) _ | refine below_drewN_ ?_ | refine Below.drew ?_))⟩
  · have h2 : 65 < m := by omega
    clear h
    go_enter Try.func48, Try.ntmps48
    go_wp2
    refine bodyPost_ret (v := .tuple #[.agg #[.slice none 0 0, .slice none 0 0], .int .i64 5]) (by simp [results, Try.results48, go_sem]) rfl ⟨rfl, by (repeat (first | exact Below.refl _ _ | assumption | refine Below.setCell ?_ (by (try simp) <;> omega) _ | refine Below.alloc ?_ (by (try simp) <;> omega) _ | refine below_drewN_ ?_ | refine Below.drew ?_))⟩
theorem toldT_ok (A : Option Addr) (n c : Nat) (B : Option Addr) (m d : Nat) (w : World) (h : ¬ 65 < n) (h' : ¬ 65 < m) : Calls Try.prog 48 #[.slice A n c, .slice B m d] w fun e w' => e = .returned (.tuple #[.agg #[.slice A n c, .slice B m d], .int .i64 0]) ∧ Below w.heap.size w w' := by
  go_enter Try.func48, Try.ntmps48
  go_wp2
  refine bodyPost_ret (v := .tuple #[.agg #[.slice A n c, .slice B m d], .int .i64 0]) (by simp [results, Try.results48, go_sem]) rfl ⟨rfl, by (repeat (first | exact Below.refl _ _ | assumption | refine Below.setCell ?_ (by (try simp) <;> omega) _ | refine Below.alloc ?_ (by (try simp) <;> omega) _ | refine below_drewN_ ?_ | refine Below.drew ?_))⟩
/-- toldTransfer of two lists of the call's own. -/
theorem toldT_any (A : Option Addr) (c : Nat) (xs : List Int) (B : Option Addr) (d : Nat) (ys : List Int) (w0 w : World) (l1 h1 l2 h2 : Nat) (hl : xs.length ≤ 1048576) (hl' : ys.length ≤ 1048576) (hO : Own w l1 h1 A c xs) (hO' : Own w l2 h2 B d ys)
    (hq : w0.heap.size ≤ l1 ∧ h1 ≤ w.heap.size ∧ w0.heap.size ≤ l2 ∧ h2 ≤ w.heap.size ∧ (h1 ≤ l2 ∨ h2 ≤ l1)) (hb : Below w0.heap.size w0 w) :
    Calls Try.prog 48 #[.slice A xs.length c, .slice B ys.length d] w (TIs (makeR xs ys) w0) := by
  obtain ⟨q1, q2, q3, q4, q5⟩ := hq
  have hsz := hb.size
  by_cases h : 65 < xs.length ∨ 65 < ys.length
  · refine (toldT_big A _ c B _ d w h).mono ?_
    rintro e w1 ⟨rfl, hb1⟩
    exact TIs.nil_ (makeR_big h) (nxt hb hb1 hsz)
  · refine (toldT_ok A _ c B _ d w (by omega) (by omega)).mono ?_
    rintro e w1 ⟨rfl, hb1⟩
    have hz1 := hb1.size
    exact TIs.mk (makeR_ok (by omega) (by omega)) rfl rfl hl hl' (hO.below hb1 q2) (hO'.below hb1 q4) q1 (by omega) q3 (by omega) q5 (nxt hb hb1 hsz)
set_option maxHeartbeats 1000000 in
/-- l05Make of two trimmed lists. -/
theorem l05Make_any (A : Option Addr) (c : Nat) (xs : List Int) (B : Option Addr) (d : Nat) (ys : List Int) (w : World) (h : Arg w A c xs) (h2 : Arg w B d ys) (t1 : trimL xs = xs) (t2 : trimL ys = ys) :
    Calls Try.prog 46 #[.slice A xs.length c, .slice B ys.length d] w (TIs (makeR xs ys) w) := by
  have hb0 : Below w.heap.size w (w.alloc (.cells #[.slice none 0 0, .slice none 0 0] 27)) := by (repeat (first | exact Below.refl _ _ | assumption | refine Below.setCell ?_ (by (try simp) <;> omega) _ | refine Below.alloc ?_ (by (try simp) <;> omega) _ | refine below_drewN_ ?_ | refine Below.drew ?_))
  have HF1 := Lib.hid (l04Fit_any A c xs _ (h.below hb0))
  rw [t1] at HF1
  have HF2 : Hid (∀ wx, Below w.heap.size w wx → Calls Try.prog 67 #[.slice B ys.length d] wx (IntsIs (fitR ys) wx)) := fun wx hx => by
    have := l04Fit_any B d ys wx (h2.below hx)
    rwa [t2] at this
  clear h h2 t1 t2
  by_cases b1 : 65 < xs.length
  · have HR := Lib.hid (makeR_big (ys := ys) (.inl b1))
    rw [← fitR_big b1] at HF1
    generalize makeR xs ys = r at *
    generalize xs.length = n at *
    generalize ys.length = m at *
    go_enter Try.func46, Try.ntmps46
    go_wp2_with fail
    refine HF1.out.mono ?_
    rintro e w1 ⟨zs, code, A1, c1, rfl, hq, hl, hO, hb1⟩
    obtain ⟨rfl, rfl⟩ := Prod.mk.inj hq
    have hbb := nxt hb0 hb1 (by simp)
    have k0 : w1.cell? ⟨w.heap.size, 0, none⟩ = some (.slice none 0 0) := ((bcell hb1).1 _ _ (by simp)).trans (by go_simp)
    have k1 : w1.cell? ⟨w.heap.size, 1, none⟩ = some (.slice none 0 0) := ((bcell hb1).1 _ _ (by simp)).trans (by go_simp)
    have f0 : w1.frozen? ⟨w.heap.size, 0, none⟩ = false := ((bcell hb1).2 _ _ (by simp)).trans (by go_simp)
    have f1 : w1.frozen? ⟨w.heap.size, 1, none⟩ = false := ((bcell hb1).2 _ _ (by simp)).trans (by go_simp)
    clear hq hb1 hO
    go_wp2
    refine bodyPost_ret (v := .tuple #[.agg #[.slice none 0 0, .slice none 0 0], .int .i64 5]) (by simp [results, Try.results46, go_sem, k0, k1, f0, f1]) rfl ?_
    exact TIs.nil_ HR.out ((hbb.setCell (by simp) _).setCell (by simp) _)
  · rw [← fitR_ok b1] at HF1
    by_cases b2 : 65 < ys.length
    · have HR := Lib.hid (makeR_big (xs := xs) (.inr b2))
      rw [← fitR_big b2] at HF2
      generalize makeR xs ys = r at *
      generalize hn : xs.length = n at *
      have HN := Lib.hid hn
      clear hn
      generalize ys.length = m at *
      go_enter Try.func46, Try.ntmps46
      go_wp2_with fail
      refine HF1.out.mono ?_
      rintro e w1 ⟨zs, code, A1, c1, rfl, hq, hl, hO, hb1⟩
      obtain ⟨rfl, rfl⟩ := Prod.mk.inj hq
      have hbb := nxt hb0 hb1 (by simp)
      have hz1 := hb1.size
      simp at hz1
      clear hq
      go_wp2_with fail
      refine (HF2.out _ hbb).mono ?_
      rintro e w2 ⟨us, code2, A2, c2, rfl, hq2, hl2, hO2, hb2⟩
      obtain ⟨rfl, rfl⟩ := Prod.mk.inj hq2
      have hbb2 := nxt hbb hb2 (by omega)
      have hb3 := nxt hb1 hb2 (by (first | (simp; done) | omega | (simp; omega)))
      have k0 : w2.cell? ⟨w.heap.size, 0, none⟩ = some (.slice none 0 0) := ((bcell hb3).1 _ _ (by simp)).trans (by go_simp)
      have k1 : w2.cell? ⟨w.heap.size, 1, none⟩ = some (.slice none 0 0) := ((bcell hb3).1 _ _ (by simp)).trans (by go_simp)
      have f0 : w2.frozen? ⟨w.heap.size, 0, none⟩ = false := ((bcell hb3).2 _ _ (by simp)).trans (by go_simp)
      have f1 : w2.frozen? ⟨w.heap.size, 1, none⟩ = false := ((bcell hb3).2 _ _ (by simp)).trans (by go_simp)
      clear hq2 hb1 hb2 hb3 hO hO2
      go_wp2
      refine bodyPost_ret (v := .tuple #[.agg #[.slice none 0 0, .slice none 0 0], .int .i64 5]) (by simp [results, Try.results46, go_sem, k0, k1, f0, f1]) rfl ?_
      exact TIs.nil_ HR.out ((hbb2.setCell (by simp) _).setCell (by simp) _)
    · have HR := Lib.hid (makeR_ok b1 b2)
      rw [← fitR_ok b2] at HF2
      generalize makeR xs ys = r at *
      generalize hn : xs.length = n at *
      have HN := Lib.hid hn
      clear hn
      generalize hm : ys.length = m at *
      have HM := Lib.hid hm
      clear hm
      go_enter Try.func46, Try.ntmps46
      go_wp2_with fail
      refine HF1.out.mono ?_
      rintro e w1 ⟨zs, code, A1, c1, rfl, hq, hl, hO, hb1⟩
      obtain ⟨rfl, rfl⟩ := Prod.mk.inj hq
      rw [HN.out]
      have hbb := nxt hb0 hb1 (by simp)
      have hz1 := hb1.size
      simp at hz1
      clear hq
      go_wp2_with fail
      refine (HF2.out _ hbb).mono ?_
      rintro e w2 ⟨us, code2, A2, c2, rfl, hq2, hl2, hO2, hb2⟩
      obtain ⟨rfl, rfl⟩ := Prod.mk.inj hq2
      rw [HM.out]
      have hz2 := hb2.size
      have hbb2 := nxt hbb hb2 (by omega)
      have hb3 := nxt hb1 hb2 (by (first | (simp; done) | omega | (simp; omega)))
      have k0 : w2.cell? ⟨w.heap.size, 0, none⟩ = some (.slice none 0 0) := ((bcell hb3).1 _ _ (by simp)).trans (by go_simp)
      have k1 : w2.cell? ⟨w.heap.size, 1, none⟩ = some (.slice none 0 0) := ((bcell hb3).1 _ _ (by simp)).trans (by go_simp)
      have f0 : w2.frozen? ⟨w.heap.size, 0, none⟩ = false := ((bcell hb3).2 _ _ (by simp)).trans (by go_simp)
      have f1 : w2.frozen? ⟨w.heap.size, 1, none⟩ = false := ((bcell hb3).2 _ _ (by simp)).trans (by go_simp)
      have hO' : Own w2 (w.heap.size + 1) w1.heap.size A1 c1 zs := (hO.mono (by simp) (Nat.le_refl _)).below hb2 (Nat.le_refl _)
      have HLL := Lib.hid (And.intro hl hl2)
      clear hq2 hb1 hb2 hb3 hO hl hl2
      go_wp2
      refine bodyPost_ret (v := .tuple #[.agg #[.slice A1 n c1, .slice A2 m c2], .int .i64 0]) (by simp [results, Try.results46, go_sem, k0, k1, f0, f1]) rfl ?_
      exact TIs.mk HR.out HN.out.symm HM.out.symm HLL.out.1 HLL.out.2 ((hO'.setFar (by (first | (simp; done) | omega | (simp; omega))) _).setFar (by (first | (simp; done) | omega | (simp; omega))) _) ((hO2.setFar (by (first | (simp; done) | omega | (simp; omega))) _).setFar (by (first | (simp; done) | omega | (simp; omega))) _) (by omega) (by (first | (simp; done) | omega | (simp; omega))) (by omega) (by (first | (simp; done) | omega | (simp; omega))) (.inl (Nat.le_refl _)) ((hbb2.setCell (by simp) _).setCell (by simp) _)

end Go.Proofs.Ytfgdkecmhgkpfaa
