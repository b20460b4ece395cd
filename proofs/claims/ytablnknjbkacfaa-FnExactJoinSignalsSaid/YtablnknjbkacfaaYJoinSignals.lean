/- The law JoinSignals. -/
import Derived.Test.YtablnknjbkacfaaJc
namespace Go.Proofs.Ytablnknjbkacfaa
open Go.RowKit
set_option linter.unusedVariables false
set_option linter.unusedSimpArgs false

theorem sigs_congr {f g : Nat → List Int} {n : Nat} (h : ∀ k, k < n → f k = g k) : sigs f n = sigs g n := by
  induction n with
  | zero => rfl
  | succ n ih => rw [sigs, sigs, ih (fun k hk => h k (by omega)), h n (by omega)]
theorem cat_congr {f g : Nat → List Int} {n : Nat} (h : ∀ k, k < n → f k = g k) : cat f n = cat g n := by
  induction n with
  | zero => rfl
  | succ n ih => rw [cat_succ, cat_succ, ih (fun k hk => h k (by omega)), h n (by omega)]
theorem joinR_congr {f g : Nat → List Int} {n : Nat} (h : ∀ k, k < n → f k = g k) : joinR f n = joinR g n := by
  rw [joinR, joinR, sigs_congr h, cat_congr h, sumL_congr (fun k hk => by rw [h k hk])]

/-- A copy of the argument. -/
structure Copy (w : World) (lo hi g n : Nat) (f : Nat → List Int) (R : Nat → Row) (L : Nat → Nat) : Prop where
  own : OwnSS w lo hi g n R L
  same : ∀ k, k < n → (R k).xs = f k
theorem Copy.below {w w' : World} {lo hi g n B : Nat} {f : Nat → List Int} {R : Nat → Row} {L : Nat → Nat} (h : Copy w lo hi g n f R L) (hb : Below B w w') (hB : hi ≤ B) : Copy w' lo hi g n f R L :=
  ⟨h.own.below hb hB, h.same⟩

set_option maxHeartbeats 4000000 in
theorem walk_FnExactJoinSignals (A0 : Option Addr) (c0 n0 : Nat) (R0 : Nat → Row) (w : World) (h0 : SS w w.heap.size A0 n0 R0) (hn : n0 ≤ maxLen) :
    Calls Try.prog 3 #[.slice A0 n0 c0] w fun e w' => e = .returned (.bool true) ∧ Below w.heap.size w w' := by
  have HS0 := Lib.hid h0
  clear h0
  by_cases ht : 1048576 < n0 + sumL (fun k => (R0 k).xs) n0
  · have HZ := Lib.hid (szSS_no A0 c0 n0 R0 w _ HS0.out.top (fun k hk => Nat.le_trans (HS0.out.rows k hk).cap (HS0.out.rows k hk).capm) hn ht)
    clear ht HS0
    go_enter Try.func3, Try.ntmps3
    go_wp2_with fail
    refine HZ.out.mono ?_
    rintro e w' ⟨rfl, rfl⟩
    go_wp2
    go_ret
    exact ⟨rfl, Below.refl _ _⟩
  have ht2 : n0 + sumL (fun k => (R0 k).xs) n0 ≤ 1048576 := by omega
  clear ht
  have HZ := Lib.hid (szSS_ok A0 c0 n0 R0 w _ HS0.out.top ht2)
  obtain ⟨f, hf⟩ : ∃ f : Nat → List Int, f = fun k => (R0 k).xs := ⟨_, rfl⟩
  have hlen : ∀ k, k < n0 → (f k).length ≤ 1048576 := fun k hk => by rw [hf]; have := sumL_at (fun k => (R0 k).xs) hk; show (R0 k).xs.length ≤ 1048576; omega
  have hi64 : ∀ k, k < n0 → ∀ x ∈ f k, I64 x := fun k hk => by rw [hf]; exact (HS0.out.rows k hk).i64
  have TO : Hid (∀ wr, Below w.heap.size w wr → Calls Try.prog 6 #[.slice A0 n0 c0] wr (FreshSS n0 f wr)) := fun wr hb => by
    rw [hf]
    exact toSS_any A0 c0 n0 R0 wr w.heap.size (HS0.out.below hb (Nat.le_refl _)) hb.size (by omega) (fun k hk => by have := sumL_at (fun k => (R0 k).xs) hk; omega)
  rw [← hf] at ht2
  clear hf HS0
  have SSC : ∀ {wr : World} {lo hi g : Nat} {R : Nat → Row} {L : Nat → Nat}, Copy wr lo hi g n0 f R L → SS wr hi (some ⟨g, 0, none⟩) n0 R := fun h => h.own.ss (fun k hk => by rw [h.same k hk]; exact hi64 k hk)
  have SUM : ∀ {R : Nat → Row}, (∀ k, k < n0 → (R k).xs = f k) → n0 + sumL (fun k => (R k).xs) n0 ≤ 1048576 := fun {R} h => by
    rw [sumL_congr (f := fun k => (R k).xs) (g := f) (fun k hk => by rw [h k hk])]; exact ht2
  have SPEC : Hid (∀ (wr : World) (lo hi g : Nat) (R : Nat → Row) (L : Nat → Nat), Copy wr lo hi g n0 f R L → hi ≤ wr.heap.size → Calls Try.prog 5 #[.slice (some ⟨g, 0, none⟩) n0 n0] wr (IntsIs (joinR f n0) wr)) := fun wr lo hi g R L h hB => by
    rw [← joinR_congr h.same]
    exact specJoin_any _ _ n0 R wr hi (SSC h) hB (SUM h.same)
  have IMPL : Hid (∀ (wr : World) (lo hi g : Nat) (R : Nat → Row) (L : Nat → Nat), Copy wr lo hi g n0 f R L → hi ≤ wr.heap.size → Calls Try.prog 7 #[.slice (some ⟨g, 0, none⟩) n0 n0] wr (IntsIs (joinR f n0) wr)) := fun wr lo hi g R L h hB => by
    rw [← joinR_congr h.same]
    exact implJoin_any _ _ n0 R wr hi (SSC h) hB (SUM h.same)
  have EQ : Hid (∀ (wr : World) (lo hi g : Nat) (R : Nat → Row) (L : Nat → Nat) (lo' hi' g' : Nat) (R' : Nat → Row) (L' : Nat → Nat), Copy wr lo hi g n0 f R L → Copy wr lo' hi' g' n0 f R' L' → hi ≤ wr.heap.size → hi' ≤ wr.heap.size →
      Calls Try.prog 9 #[.slice (some ⟨g, 0, none⟩) n0 n0, .slice (some ⟨g', 0, none⟩) n0 n0] wr (EqSS wr)) := fun wr lo hi g R L lo' hi' g' R' L' h h' hB hB' =>
    eqSS_any _ _ n0 n0 n0 R R' wr (max hi hi') ⟨fun hp => by obtain ⟨b, o, e1, e2, e3⟩ := (SSC h).top hp; exact ⟨b, o, e1, by omega, e3⟩, fun k hk => by have r := (SSC h).rows k hk; exact ⟨r.sl.mono (by omega), r.cap, r.capm, r.i64, r.nil⟩⟩
      ⟨fun hp => by obtain ⟨b, o, e1, e2, e3⟩ := (SSC h').top hp; exact ⟨b, o, e1, by omega, e3⟩, fun k hk => by have r := (SSC h').rows k hk; exact ⟨r.sl.mono (by omega), r.cap, r.capm, r.i64, r.nil⟩⟩
      (by omega) (by omega) (fun k hk => by rw [h.same k hk, h'.same k hk]) (fun k hk => by rw [h.same k hk]; exact hlen k hk)
  have MARK : Hid (∀ (wr : World) (lo hi g : Nat) (R : Nat → Row) (L : Nat → Nat), Copy wr lo hi g n0 f R L → Calls Try.prog 10 #[.slice (some ⟨g, 0, none⟩) n0 n0, .int .i64 1] wr (MarkSS lo hi wr)) := fun wr lo hi g R L h =>
    markSS_any n0 lo hi g R L wr h.own (SUM h.same)
  clear SSC SUM hlen hi64
  generalize joinR f n0 = r at *
  have hn1 : n0 ≤ 1048576 := by omega
  clear ht2 hn
  go_enter Try.func3, Try.ntmps3
  go_wp2_with fail
  refine HZ.out.mono ?_
  rintro e w' ⟨l, hl, rfl, rfl⟩
  clear HZ
  have B0 := Below.refl w.heap.size w
  go_wp2_with fail
  refine (TO.out _ B0).mono ?_
  rintro e w1 ⟨g1, R1, L1, rfl, same1, own1, hb1⟩
  have S0 : Copy w1 w.heap.size w1.heap.size g1 n0 f R1 L1 := ⟨own1, same1⟩
  have hz1 := hb1.size
  have B1 := nxt B0 hb1 (by omega)
  clear hb1 B0 own1 same1
  go_wp2_with fail
  refine (SPEC.out _ _ _ _ _ _ S0 (by omega)).mono ?_
  rintro e w2 ⟨ys, code, A, c, rfl, HR, len, G, hb2⟩
  have hr := Lib.hid HR
  clear HR S0
  have hz2 := hb2.size
  have B2 := nxt B1 hb2 (by omega)
  clear hb2 B1
  go_wp2_with fail
  refine (TO.out _ B2).mono ?_
  rintro e w3 ⟨g3, R3, L3, rfl, same3, own3, hb3⟩
  have X0 : Copy w3 w2.heap.size w3.heap.size g3 n0 f R3 L3 := ⟨own3, same3⟩
  have hz3 := hb3.size
  replace G := G.below hb3 (by omega)
  have B3 := nxt B2 hb3 (by omega)
  clear hb3 B2 own3 same3
  go_wp2_with fail
  refine (IMPL.out _ _ _ _ _ _ X0 (by omega)).mono ?_
  rintro e w4 ⟨ysi, codei, Ai, ci, rfl, HRi, leni, Gi, hb4⟩
  have hri := Lib.hid HRi
  clear HRi
  have hz4 := hb4.size
  replace G := G.below hb4 (by omega)
  replace X0 := X0.below hb4 (by omega)
  have B4 := nxt B3 hb4 (by omega)
  clear hb4 B3
  obtain ⟨rfl, rfl⟩ := Prod.mk.inj (hr.out.trans hri.out.symm)
  clear hri
  go_wp2_with fail
  refine (eqBel_any _ _ _ _ _ _ _ _ Gi.sl G.sl (by omega)).mono ?_
  rintro e w5 ⟨rfl, hb5⟩
  have hz5 := hb5.size
  replace G := G.below hb5 (by omega)
  replace X0 := X0.below hb5 (by omega)
  replace Gi := Gi.below hb5 (by omega)
  have B5 := nxt B4 hb5 (by omega)
  clear hb5 B4
  go_wp2_with fail
  refine (TO.out _ B5).mono ?_
  rintro e w6 ⟨g6, R6, L6, rfl, same6, own6, hb6⟩
  have T0 : Copy w6 w5.heap.size w6.heap.size g6 n0 f R6 L6 := ⟨own6, same6⟩
  have hz6 := hb6.size
  replace G := G.below hb6 (by omega)
  replace X0 := X0.below hb6 (by omega)
  replace Gi := Gi.below hb6 (by omega)
  have B6 := nxt B5 hb6 (by omega)
  clear hb6 B5 own6 same6
  go_wp2_with fail
  refine (EQ.out _ _ _ _ _ _ _ _ _ _ _ X0 T0 (by omega) (by omega)).mono ?_
  rintro e w7 ⟨rfl, hb7⟩
  have hz7 := hb7.size
  replace G := G.below hb7 (by omega)
  replace X0 := X0.below hb7 (by omega)
  replace Gi := Gi.below hb7 (by omega)
  have B7 := nxt B6 hb7 (by omega)
  clear hb7 B6 T0
  go_wp2_with fail
  refine (MARK.out _ _ _ _ _ _ X0).mono ?_
  rintro e w8 ⟨k8, hk8, rfl, hon8⟩
  have hz8 := hon8.size
  clear X0
  replace G := G.only hon8 (by omega)
  replace Gi := Gi.only hon8 (by omega)
  have B8 := B7.trans (hon8.below (B := w.heap.size) (by omega) (by omega))
  clear hon8 B7
  go_wp2_with fail
  refine (eqBel_any _ _ _ _ _ _ _ _ Gi.sl G.sl (by omega)).mono ?_
  rintro e w9 ⟨rfl, hb9⟩
  have hz9 := hb9.size
  replace G := G.below hb9 (by omega)
  replace Gi := Gi.below hb9 (by omega)
  have B9 := nxt B8 hb9 (by omega)
  clear hb9 B8
  go_wp2_with fail
  refine (mark_any _ _ _ _ _ _ _ Gi (by omega) (by omega) (by omega)).mono ?_
  rintro e w10 ⟨rfl, zs10, hzl10, hmk10, M10, hon10⟩
  have hz10 := hon10.size
  have HZL10 := Lib.hid hzl10
  have HMK10 := Lib.hid hmk10
  clear hzl10 hmk10 Gi
  replace G := G.only hon10 (by omega)
  have B10 := B9.trans (hon10.below (B := w.heap.size) (by omega) (by omega))
  clear hon10 B9
  go_wp2_with fail
  refine (heldN_any _ _ _ _ HZL10.out _ _ _ M10.sl HMK10.out (by omega) (by omega) (by omega)).mono ?_
  rintro e wh ⟨rfl, rfl⟩
  go_wp2_with fail
  refine (TO.out _ B10).mono ?_
  rintro e w11 ⟨g11, R11, L11, rfl, same11, own11, hb11⟩
  have Y0 : Copy w11 w10.heap.size w11.heap.size g11 n0 f R11 L11 := ⟨own11, same11⟩
  have hz11 := hb11.size
  replace G := G.below hb11 (by omega)
  replace M10 := M10.below hb11 (by omega)
  have B11 := nxt B10 hb11 (by omega)
  clear hb11 B10 own11 same11
  go_wp2_with fail
  refine (IMPL.out _ _ _ _ _ _ Y0 (by omega)).mono ?_
  rintro e w12 ⟨ysj, codej, Aj, cj, rfl, HRj, lenj, Gj, hb12⟩
  have hrj := Lib.hid HRj
  clear HRj
  have hz12 := hb12.size
  replace G := G.below hb12 (by omega)
  replace M10 := M10.below hb12 (by omega)
  have B12 := nxt B11 hb12 (by omega)
  clear hb12 B11 Y0
  obtain ⟨rfl, rfl⟩ := Prod.mk.inj (hr.out.trans hrj.out.symm)
  clear hrj
  go_wp2_with fail
  refine (eqBel_any _ _ _ _ _ _ _ _ Gj.sl G.sl (by omega)).mono ?_
  rintro e w13 ⟨rfl, hb13⟩
  have hz13 := hb13.size
  replace G := G.below hb13 (by omega)
  replace M10 := M10.below hb13 (by omega)
  replace Gj := Gj.below hb13 (by omega)
  have B13 := nxt B12 hb13 (by omega)
  clear hb13 B12
  go_wp2_with fail
  refine (heldN_any _ _ _ _ HZL10.out _ _ _ M10.sl HMK10.out (by omega) (by omega) (by omega)).mono ?_
  rintro e wh ⟨rfl, rfl⟩
  go_wp2
  go_ret
  exact ⟨rfl, B13⟩

end Go.Proofs.Ytablnknjbkacfaa
