/- The walk of the reference's ReadTransfer. -/
import Derived.Test.YtplioelpmfeabaaDoorUc
namespace Go.Proofs.YtplioelpmfeabaaDoor
open Go.RowKit
set_option linter.unusedVariables false
set_option linter.unusedSimpArgs false

/-- A transfer function of fresh lists, and whether there is one. -/
def TrIs (r : (List Int × List Int) × Bool) (w : World) (e : Ending) (w' : World) : Prop :=
  ∃ xs ys code A c B d l1 h1 l2 h2, e = .returned (.tuple #[.agg #[.slice A xs.length c, .slice B ys.length d], .bool code]) ∧ ((xs, ys), code) = r ∧ xs.length ≤ 1048576 ∧ ys.length ≤ 1048576 ∧
    Own w' l1 h1 A c xs ∧ Own w' l2 h2 B d ys ∧ w.heap.size ≤ l1 ∧ h1 ≤ w'.heap.size ∧ w.heap.size ≤ l2 ∧ h2 ≤ w'.heap.size ∧ (h1 ≤ l2 ∨ h2 ≤ l1) ∧ Below w.heap.size w w'
theorem TrIs.nil_ {r : (List Int × List Int) × Bool} {code : Bool} {w w' : World} (h : r = (([], []), code)) (hb : Below w.heap.size w w') :
    TrIs r w (.returned (.tuple #[.agg #[.slice none 0 0, .slice none 0 0], .bool code])) w' :=
  ⟨[], [], _, none, 0, none, 0, w.heap.size, w.heap.size, w.heap.size, w.heap.size, rfl, h.symm, by simp, by simp, Own.nil _ _ _, Own.nil _ _ _, Nat.le_refl _, hb.size, Nat.le_refl _, hb.size, .inl (Nat.le_refl _), hb⟩
theorem TrIs.mk {r : (List Int × List Int) × Bool} {ys zs : List Int} {code : Bool} {w w' : World} {A B : Option Addr} {n m c d l1 h1 l2 h2 : Nat} (h : r = ((ys, zs), code)) (hn : n = ys.length) (hm : m = zs.length) (hl : ys.length ≤ 1048576) (hl' : zs.length ≤ 1048576)
    (hO : Own w' l1 h1 A c ys) (hO' : Own w' l2 h2 B d zs) (e1 : w.heap.size ≤ l1) (e2 : h1 ≤ w'.heap.size) (e3 : w.heap.size ≤ l2) (e4 : h2 ≤ w'.heap.size) (e5 : h1 ≤ l2 ∨ h2 ≤ l1) (hb : Below w.heap.size w w') :
    TrIs r w (.returned (.tuple #[.agg #[.slice A n c, .slice B m d], .bool code])) w' := by
  subst hn hm
  exact ⟨_, _, _, _, _, _, _, _, _, _, _, rfl, h.symm, hl, hl', hO, hO', e1, e2, e3, e4, e5, hb⟩
theorem i64_snoc {us : List Int} {m : Int} (h : ∀ x ∈ us, I64 x) (h1 : -1000000000000000000 < m) (h2 : m < 1000000000000000000) : ∀ x ∈ us ++ [m], I64 x := by
  intro x hx
  rw [List.mem_append, List.mem_singleton] at hx
  rcases hx with hx | rfl
  · exact h x hx
  · exact ⟨by omega, by omega⟩
theorem str_isden {p : List UInt8} (h : p = denW) : str p = ⟨#[100, 101, 110]⟩ := by rw [h]; rfl
theorem str_cmp2 {a : List UInt8} {s : ByteArray} (h : ¬ a = s.data.toList) : ((str a).toList == s.toList) = false := by
  rw [beq_eq_false_iff_ne, toList_str, Lib.toList_data]
  exact h
theorem str_noden {p : List UInt8} (h : p ≠ denW) : ¬ (str p).toList = [100, 101, 110] := by
  rw [toList_str]
  exact h

set_option maxRecDepth 100000 in
set_option maxHeartbeats 8000000 in
theorem specReadTransfer_any (s : ByteArray) (w : World) (hs : s.size ≤ 1048576) : Calls Tryd.prog 40 #[.string s] w (TrIs (trRead s.data.toList) w) := by
  obtain ⟨l, hl⟩ : ∃ l, l = s.data.toList := ⟨_, rfl⟩
  rw [← hl]
  have HL := Lib.hid hl
  have HSp : Hid (∀ w', Calls Tryd.prog 49 #[.string s, .int .u8 32] w' (FreshG 9 (strV (pieces 32 l)) w')) := fun w' => by rw [hl]; exact l01Split_any s w' hs
  have hll : l.length ≤ 1048576 := by rw [hl, ← Lib.size_eq]; exact hs
  obtain ⟨ps, hps⟩ : ∃ ps, ps = pieces 32 l := ⟨_, rfl⟩
  have HPl : Hid (∀ k, k < ps.length → (str (ps.getD k [])).size ≤ 1048576) := fun k hk => by
    rw [str_size]
    have := pieces_le 32 l _ (by rw [← hps]; exact getD_mem hk)
    omega
  have HG : Hid (∀ k, k < ps.length → (strV ps).getD k undef = .string (str (ps.getD k []))) := fun k hk => strV_get ps k hk
  have HV : Hid ((strV ps).length = ps.length) := strV_length ps
  have hpl : ps.length ≤ 1048577 := by rw [hps]; have := pieces_length 32 l; omega
  have hp1 : 1 ≤ ps.length := by
    rw [hps]
    rcases Nat.eq_zero_or_pos (pieces 32 l).length with h0 | h0
    · exact absurd (List.eq_nil_of_length_eq_zero h0) (cutAt_ne 32 l [])
    · exact h0
  have HDen : Hid (∀ k us vs, k < ps.length → ps.getD k [] = denW → SpInv l k false us vs → SpInv l (k + 1) true us vs) := fun k us vs hk he h => h.den (by rw [← hps]; exact hk) (by rw [← hps]; exact he)
  have HOne : Hid (∀ k us vs m, 1 ≤ k → k < ps.length → readN (ps.getD k []) = (m, true) → SpInv l k false us vs → SpInv l (k + 1) false (us ++ [m]) vs) := fun k us vs m h1 hk he h => h.one h1 (by rw [← hps]; exact hk) (by rw [← hps]; exact he)
  have HTwo : Hid (∀ k us vs m, k < ps.length → readN (ps.getD k []) = (m, true) → SpInv l k true us vs → SpInv l (k + 1) true us (vs ++ [m])) := fun k us vs m hk he h => h.two (by rw [← hps]; exact hk) (by rw [← hps]; exact he)
  have HBad : Hid (∀ k b us vs m, 1 ≤ k → k < ps.length → (ps.getD k [] = denW → b = true) → readN (ps.getD k []) = (m, false) → SpInv l k b us vs → trRead l = (([], []), false)) := fun k b us vs m h1 hk hd he h => h.bad h1 (by rw [← hps]; exact hk) (by rw [← hps]; exact hd) (by rw [← hps]; exact he)
  have HLong : Hid (132 < ps.length → trRead l = (([], []), false)) := fun h => SpInv.long (by rw [← hps]; exact h)
  have HFin : Hid (∀ b us vs, SpInv l ps.length b us vs → ∀ xs ys, Tr l xs ys → us = xs ∧ vs = ys) := fun b us vs h => h.fin (.inl (by rw [hps]))
  have HRB : Hid (∀ k m b, readN (ps.getD k []) = (m, b) → -1000000000000000000 < m ∧ m < 1000000000000000000) := fun k m b => readN_bound
  have HNum : Hid (∀ k w', k < ps.length → Calls Tryd.prog 46 #[.string (str (ps.getD k []))] w' (NumB (readN (ps.getD k [])) w')) := fun k w' hk => l01Number_any (str (ps.getD k [])) w' (HPl.out k hk)
  have HDR : Hid (readN denW = (0, false)) := readN_dig (by decide)
  rw [← hps] at HSp
  obtain ⟨f, hf⟩ : ∃ f : Nat → List UInt8, f = fun k => ps.getD k [] := ⟨_, rfl⟩
  simp only [← congrFun hf _] at HPl HG HDen HOne HTwo HBad HRB HNum
  clear hf hps hl hll
  generalize hr : trRead l = r at *
  have HR := Lib.hid hr
  clear hr
  generalize strV ps = vs0 at *
  generalize ps.length = n at *
  have hb0 : Below w.heap.size w (w.alloc (.cells #[.slice none 0 0, .slice none 0 0] 52)) := by (repeat (first | exact Below.refl _ _ | assumption | refine Below.setCell ?_ (by (try simp) <;> omega) _ | refine Below.alloc ?_ (by (try simp) <;> omega) _ | refine below_drewN_ ?_ | refine Below.drew ?_))
  have r0 : (w.alloc (.cells #[.slice none 0 0, .slice none 0 0] 52)).cell? ⟨w.heap.size, 0, none⟩ = some (.slice none 0 0) := by go_simp
  have r1 : (w.alloc (.cells #[.slice none 0 0, .slice none 0 0] 52)).cell? ⟨w.heap.size, 1, none⟩ = some (.slice none 0 0) := by go_simp
  have q0 : (w.alloc (.cells #[.slice none 0 0, .slice none 0 0] 52)).frozen? ⟨w.heap.size, 0, none⟩ = false := by go_simp
  have q1 : (w.alloc (.cells #[.slice none 0 0, .slice none 0 0] 52)).frozen? ⟨w.heap.size, 1, none⟩ = false := by go_simp
  have hz0 : w.heap.size < (w.alloc (.cells #[.slice none 0 0, .slice none 0 0] 52)).heap.size := by simp
  go_enter Tryd.func40, Tryd.ntmps40
  go_wp2_with fail
  generalize w.alloc (.cells #[.slice none 0 0, .slice none 0 0] 52) = W at *
  refine (HSp.out W).mono ?_
  rintro e w1 ⟨A0, c0, rfl, hO0, hb1⟩
  rw [HV.out]
  have hz1 := hb1.size
  have hbw1 := nxt hb0 hb1 hb0.size
  rw [← (bcell hb1).1 _ _ hz0] at r0 r1
  rw [← (bcell hb1).2 _ _ hz0] at q0 q1
  have HO0 := Lib.hid hO0
  clear hO0 hb1 hb0
  have HZR : w.heap.size < w1.heap.size := by omega
  have HBW := Lib.hid (hbw1.alloc hbw1.size (.cells #[.slice none 0 0, .slice none 0 0] 52))
  have HST : Hid ((w1.alloc (.cells #[.slice none 0 0, .slice none 0 0] 52)).cell? ⟨w1.heap.size, 0, none⟩ = some (.slice none 0 0) ∧ (w1.alloc (.cells #[.slice none 0 0, .slice none 0 0] 52)).cell? ⟨w1.heap.size, 1, none⟩ = some (.slice none 0 0) ∧ (w1.alloc (.cells #[.slice none 0 0, .slice none 0 0] 52)).frozen? ⟨w1.heap.size, 0, none⟩ = false ∧ (w1.alloc (.cells #[.slice none 0 0, .slice none 0 0] 52)).frozen? ⟨w1.heap.size, 1, none⟩ = false) := by
    refine ⟨?_, ?_, ?_, ?_⟩ <;> go_simp
  have HRC : Hid (∀ w', Below w1.heap.size w1 w' → w'.cell? ⟨w.heap.size, 0, none⟩ = some (.slice none 0 0) ∧ w'.cell? ⟨w.heap.size, 1, none⟩ = some (.slice none 0 0) ∧ w'.frozen? ⟨w.heap.size, 0, none⟩ = false ∧ w'.frozen? ⟨w.heap.size, 1, none⟩ = false) := fun w' hb =>
    ⟨((bcell hb).1 _ _ HZR).trans r0, ((bcell hb).1 _ _ HZR).trans r1, ((bcell hb).2 _ _ HZR).trans q0, ((bcell hb).2 _ _ HZR).trans q1⟩
  have HB1 := Lib.hid hbw1
  clear r0 r1 q0 q1 hbw1 hz1 hz0
  go_wp2
  go_loopw [6, 7] (fun fl i wr => ∃ (k : Nat) (b : Bool) (us vs : List Int) (A : Option Addr) (c : Nat) (B : Option Addr) (d h : Nat), 1 ≤ k ∧ k ≤ n ∧ fl = .bool b ∧ i = .int .i64 k ∧ us.length + 1 ≤ k ∧ vs.length + 1 ≤ k ∧ Hid (SpInv l k b us vs) ∧ Hid ((∀ x ∈ us, I64 x) ∧ ∀ x ∈ vs, I64 x) ∧
    Hid (b = false → B = none ∧ d = 0 ∧ vs = []) ∧ Own wr (w1.heap.size + 1) h A c us ∧ Own wr h wr.heap.size B d vs ∧ w1.heap.size + 1 ≤ h ∧ h ≤ wr.heap.size ∧
    (wr.cell? ⟨w1.heap.size, 0, none⟩ = some (.slice A us.length c) ∧ wr.cell? ⟨w1.heap.size, 1, none⟩ = some (.slice B vs.length d) ∧ wr.frozen? ⟨w1.heap.size, 0, none⟩ = false ∧ wr.frozen? ⟨w1.heap.size, 1, none⟩ = false) ∧ Below w1.heap.size w1 wr) (fun _ i _ => n - (intOf i).toNat)
  case atStart =>
    exact ⟨1, false, [], [], none, 0, none, 0, w1.heap.size + 1, by omega, hp1, rfl, rfl, by simp, by simp, Lib.hid (SpInv.start l), Lib.hid ⟨by simp, by simp⟩, Lib.hid (fun _ => ⟨rfl, rfl, rfl⟩), Own.nil _ _ _, Own.nil _ _ _, Nat.le_refl _, by simp, HST.out, by (repeat (first | exact Below.refl _ _ | assumption | refine Below.setCell ?_ (by (try simp) <;> omega) _ | refine Below.alloc ?_ (by (try simp) <;> omega) _ | refine below_drewN_ ?_ | refine Below.drew ?_))⟩
  case round =>
    obtain ⟨k, b, us, vs, A, c, B, d, h, hk1, hk, rfl, rfl, hul, hvl, HInv, HI, HB0, hOu, hOv, hgh, hhw, ⟨e0, e1, f0, f1⟩, hbr⟩ := hrel
    obtain ⟨r0, r1, q0, q1⟩ := HRC.out _ hbr
    have hsz := hbr.size
    have hbz := HB1.out.trans (hbr.mono HB1.out.size)
    by_cases hlt : k < n
    · obtain ⟨bb, o, rfl, hb, hcell⟩ := HO0.out.sl (by rw [HV.out]; omega)
      have k1 : wr.cell? ⟨bb, o + k, none⟩ = some (.string (str (f k))) := by
        rw [← HG.out k hlt, ← hcell k (by rw [HV.out]; exact hlt)]
        exact hbr.cell (p := ⟨bb, o + k, none⟩) hb
      clear hcell
      have HR1 : Hid (Calls Tryd.prog 46 #[.string (str (f k))] wr (NumB (readN (f k)) wr)) := HNum.out k wr hlt
      by_cases hd : f k = denW
      · have HD1 := Lib.hid hd
        have hst := str_isden hd
        rw [hst] at k1 HR1
        clear hst
        cases b
        · have HI2 := Lib.hid (HDen.out k us vs hlt hd HInv.out)
          obtain ⟨rfl, rfl, rfl⟩ := HB0.out rfl
          clear hd HR1
          go_wp2
          go_roundw
          case rel => exact ⟨k + 1, true, us, [], A, c, none, 0, h, by omega, by omega, rfl, by go_num, by omega, by simp, HI2, HI, Lib.hid (fun e => by cases e), hOu, hOv, hgh, hhw, ⟨e0, e1, f0, f1⟩, hbr⟩
          case measure => simp [intOf]; omega
        · have HNil : Hid (r = (([], []), false)) := by
            show _ = _
            rw [← HR.out]
            exact HR.out.trans (HBad.out k true us vs 0 hk1 hlt (fun _ => rfl) (by rw [hd]; exact HDR.out) HInv.out)
          rw [hd, HDR.out] at HR1
          clear hd
          go_wp2_with fail
          refine HR1.out.mono ?_
          rintro e w2 ⟨rfl, hb2⟩
          have hbz2 := hbz.trans (hb2.mono hbz.size)
          have hgw : w.heap.size < wr.heap.size := by omega
          rw [← (bcell hb2).1 _ _ hgw] at r0 r1
          rw [← (bcell hb2).2 _ _ hgw] at q0 q1
          clear hb2 e0 e1 f0 f1
          go_wp2
          exact bodyPost_ret (v := .tuple #[.agg #[.slice none 0 0, .slice none 0 0], .bool false]) (by simp [results, Tryd.results40, go_sem, r0, r1, q0, q1]) rfl (TrIs.nil_ HNil.out ((hbz2.setCell (Nat.le_refl _) _).setCell (Nat.le_refl _) _))
      · have hne := str_noden hd
        have hne2 : ((str (f k)).toList == [100, 101, 110]) = false := by rw [beq_eq_false_iff_ne]; exact hne
        have HD1 := Lib.hid hd
        clear hd
        rcases hrn : readN (f k) with ⟨m, ok⟩
        have HRN := Lib.hid hrn
        rw [hrn] at HR1
        obtain ⟨hm1, hm2⟩ := HRB.out k m ok hrn
        clear hrn
        cases ok
        · have HNil : Hid (r = (([], []), false)) := HBad.out k b us vs m hk1 hlt (fun e => absurd e HD1.out) HRN.out HInv.out
          generalize str (f k) = q at *
          go_wp2_with fail
          refine HR1.out.mono ?_
          rintro e w2 ⟨rfl, hb2⟩
          have hbz2 := hbz.trans (hb2.mono hbz.size)
          have hgw : w.heap.size < wr.heap.size := by omega
          rw [← (bcell hb2).1 _ _ hgw] at r0 r1
          rw [← (bcell hb2).2 _ _ hgw] at q0 q1
          clear hb2 e0 e1 f0 f1
          go_wp2
          exact bodyPost_ret (v := .tuple #[.agg #[.slice none 0 0, .slice none 0 0], .bool false]) (by simp [results, Tryd.results40, go_sem, r0, r1, q0, q1]) rfl (TrIs.nil_ HNil.out ((hbz2.setCell (Nat.le_refl _) _).setCell (Nat.le_refl _) _))
        · by_cases h132 : 132 < n
          · have HNil : Hid (r = (([], []), false)) := HLong.out h132
            generalize str (f k) = q at *
            go_wp2_with fail
            refine HR1.out.mono ?_
            rintro e w2 ⟨rfl, hb2⟩
            have hbz2 := hbz.trans (hb2.mono hbz.size)
            have hgw : w.heap.size < wr.heap.size := by omega
            rw [← (bcell hb2).1 _ _ hgw] at r0 r1
            rw [← (bcell hb2).2 _ _ hgw] at q0 q1
            clear hb2 e0 e1 f0 f1
            go_wp2
            exact bodyPost_ret (v := .tuple #[.agg #[.slice none 0 0, .slice none 0 0], .bool false]) (by simp [results, Tryd.results40, go_sem, r0, r1, q0, q1]) rfl (TrIs.nil_ HNil.out ((hbz2.setCell (Nat.le_refl _) _).setCell (Nat.le_refl _) _))
          · cases b
            · obtain ⟨rfl, rfl, rfl⟩ := HB0.out rfl
              have HI2 := Lib.hid (HOne.out k us [] m hk1 hlt HRN.out HInv.out)
              have HI64 := Lib.hid (show (∀ x ∈ us ++ [m], I64 x) ∧ ∀ x ∈ ([] : List Int), I64 x from ⟨i64_snoc HI.out.1 hm1 hm2, HI.out.2⟩)
              generalize str (f k) = q at *
              go_wp2_with fail
              refine HR1.out.mono ?_
              rintro e w2 ⟨rfl, hb2⟩
              have hgw : w1.heap.size < wr.heap.size := by omega
              rw [← (bcell hb2).1 _ _ hgw] at e0 e1
              rw [← (bcell hb2).2 _ _ hgw] at f0 f1
              have hbr2 := hbr.trans (hb2.mono hsz)
              have hOu2 := hOu.same hb2
              have hz2 := hb2.size
              have hb2' := hb2
              clear r0 r1 q0 q1 hb2
              go_wp2_with (at_builtin; refine wl_app1 rfl (.tmp 52) (.tmp 54) rfl A c us m us.length rfl hOu2 rfl rfl (by omega) (by omega) ?_)
              intro A' c' w' hown' hb'
              have hz3 := hb'.size
              have e0' : w'.cell? ⟨w1.heap.size, 0, none⟩ = some (.slice A us.length c) := (hb'.cell (p := ⟨w1.heap.size, 0, none⟩) (Nat.lt_succ_self _)).trans e0
              have e1' : w'.cell? ⟨w1.heap.size, 1, none⟩ = some (.slice none 0 0) := (hb'.cell (p := ⟨w1.heap.size, 1, none⟩) (Nat.lt_succ_self _)).trans e1
              have f0' : w'.frozen? ⟨w1.heap.size, 0, none⟩ = false := (hb'.frozen (p := ⟨w1.heap.size, 0, none⟩) (Nat.lt_succ_self _)).trans f0
              have f1' : w'.frozen? ⟨w1.heap.size, 1, none⟩ = false := (hb'.frozen (p := ⟨w1.heap.size, 1, none⟩) (Nat.lt_succ_self _)).trans f1
              have hbr3 : Below w1.heap.size w1 w' := hbr2.trans (hb'.mono (Nat.le_succ _))
              clear hb' e0 e1 f0 f1 hOu2
              go_wp2
              go_roundw
              case rel =>
                refine ⟨k + 1, false, us ++ [m], [], A', c', none, 0, w'.heap.size, by omega, by omega, rfl, by go_num, by simp; omega, by simp, HI2, HI64, Lib.hid (fun _ => ⟨rfl, rfl, rfl⟩), hown'.setFar (.inl (Nat.lt_succ_self _)) _, Own.nil _ _ _, by omega, by simp, ⟨?_, ?_, ?_, ?_⟩, hbr3.setCell (Nat.le_refl _) _⟩
                · rw [List.length_append]; go_simp
                · go_simp
                · go_simp
                · go_simp
              case measure => simp [intOf]; omega
            · have HI2 := Lib.hid (HTwo.out k us vs m hlt HRN.out HInv.out)
              have HI64 := Lib.hid (show (∀ x ∈ us, I64 x) ∧ ∀ x ∈ vs ++ [m], I64 x from ⟨HI.out.1, i64_snoc HI.out.2 hm1 hm2⟩)
              generalize str (f k) = q at *
              go_wp2_with fail
              refine HR1.out.mono ?_
              rintro e w2 ⟨rfl, hb2⟩
              have hgw : w1.heap.size < wr.heap.size := by omega
              rw [← (bcell hb2).1 _ _ hgw] at e0 e1
              rw [← (bcell hb2).2 _ _ hgw] at f0 f1
              have hbr2 := hbr.trans (hb2.mono hsz)
              have hOu2 := hOu.same hb2
              have hz2 := hb2.size
              have hb2' := hb2
              clear r0 r1 q0 q1 hb2
              have hOv2 := hOv.same hb2'
              go_wp2_with (at_builtin; refine wl_app1 rfl (.tmp 46) (.tmp 48) rfl B d vs m vs.length rfl hOv2 rfl rfl (by omega) (by omega) ?_)
              intro B' d' w' hown' hb'
              have hz3 := hb'.size
              have hgl : w1.heap.size < h := by omega
              have e0' : w'.cell? ⟨w1.heap.size, 0, none⟩ = some (.slice A us.length c) := (hb'.cell (p := ⟨w1.heap.size, 0, none⟩) hgl).trans e0
              have e1' : w'.cell? ⟨w1.heap.size, 1, none⟩ = some (.slice B vs.length d) := (hb'.cell (p := ⟨w1.heap.size, 1, none⟩) hgl).trans e1
              have f0' : w'.frozen? ⟨w1.heap.size, 0, none⟩ = false := (hb'.frozen (p := ⟨w1.heap.size, 0, none⟩) hgl).trans f0
              have f1' : w'.frozen? ⟨w1.heap.size, 1, none⟩ = false := (hb'.frozen (p := ⟨w1.heap.size, 1, none⟩) hgl).trans f1
              have hbr3 : Below w1.heap.size w1 w' := hbr2.trans (hb'.mono (Nat.le_of_lt hgl))
              have hOu3 := hOu2.below hb' (Nat.le_refl _)
              clear hb' e0 e1 f0 f1 hOu2
              go_wp2
              go_roundw
              case rel =>
                refine ⟨k + 1, true, us, vs ++ [m], A, c, B', d', h, by omega, by omega, rfl, by go_num, by omega, by simp; omega, HI2, HI64, Lib.hid (fun e => by cases e), hOu3.setFar (.inl (Nat.lt_succ_self _)) _, (hown'.setFar (.inl hgl) _).mono (Nat.le_refl _) (by simp), hgh, by simp; omega, ⟨?_, ?_, ?_, ?_⟩, hbr3.setCell (Nat.le_refl _) _⟩
                · go_simp
                · rw [List.length_append]; go_simp
                · go_simp
                · go_simp
              case measure => simp [intOf]; omega
    · have hkn : k = n := by omega
      subst hkn
      have HFi := Lib.hid (HFin.out b us vs HInv.out)
      have hul2 : us.length ≤ 1048577 := by omega
      by_cases h0 : l = []
      · have hem : s.toList.isEmpty = true := by rw [Lib.toList_data, ← HL.out, h0]; rfl
        have HNil : Hid (r = (([], []), false)) := by
          show _ = _
          rw [← HR.out]
          exact trRead_no fun xs ys ht => ht.ne h0
        clear h0
        go_wp2
        exact bodyPost_ret (v := .tuple #[.agg #[.slice none 0 0, .slice none 0 0], .bool false]) (by simp [results, Tryd.results40, go_sem, r0, r1, q0, q1]) rfl (TrIs.nil_ HNil.out ((hbz.setCell (Nat.le_refl _) _).setCell (Nat.le_refl _) _))
      · have hem : s.toList.isEmpty = false := by
          rw [Lib.toList_data, ← HL.out]
          cases hh : l with
          | nil => exact absurd hh h0
          | cons c r => rfl
        · have HT : Hid (Calls Tryd.prog 36 #[.agg #[.slice A us.length c, .slice B vs.length d]] wr (StrIs (transT us vs) wr)) :=
            specTransferText_any A c us B d vs wr (hOu.arg (by omega) (by omega) HI.out.1) (hOv.arg (by omega) (by omega) HI.out.2)
          have hc1 : us.length ≤ 1048576 := by omega
          have hc2 : vs.length ≤ 1048576 := by omega
          by_cases hq : transT us vs = l
          · have HYes : Hid (r = ((us, vs), true)) := by
              show _ = _
              rw [← HR.out]
              exact trRead_yes (tr_of hq h0)
            have hqs : str (transT us vs) = s := by rw [hq, HL.out]; exact (str_of s).symm
            unfold StrIs at HT
            rw [hqs] at HT
            clear hq hqs h0
            generalize hun : us.length = un at *
            generalize hvn : vs.length = vn at *
            have HUN := Lib.hid hun
            have HVN := Lib.hid hvn
            clear hun hvn
            go_wp2_with fail
            refine HT.out.mono ?_
            rintro e w2 ⟨rfl, hb2⟩
            have hgw : w.heap.size < wr.heap.size := by omega
            rw [← (bcell hb2).1 _ _ hgw] at r0 r1
            rw [← (bcell hb2).2 _ _ hgw] at q0 q1
            have hgw1 : w1.heap.size < wr.heap.size := by omega
            rw [← (bcell hb2).1 _ _ hgw1] at e0 e1
            rw [← (bcell hb2).2 _ _ hgw1] at f0 f1
            have hbz2 := hbz.trans (hb2.mono hbz.size)
            have hz2 := hb2.size
            have hOu2 := hOu.same hb2
            have hOv2 := hOv.same hb2
            clear hb2
            go_wp2
            refine bodyPost_ret (v := .tuple #[.agg #[.slice A un c, .slice B vn d], .bool true]) (by simp [results, Tryd.results40, go_sem, r0, r1, q0, q1]) rfl ?_
            exact TrIs.mk HYes.out HUN.out.symm HVN.out.symm (by rw [HUN.out]; exact hc1) (by rw [HVN.out]; exact hc2) ((hOu2.setFar (.inl (by show w.heap.size < _; omega)) _).setFar (.inl (by show w.heap.size < _; omega)) _) ((hOv2.setFar (.inl (by show w.heap.size < _; omega)) _).setFar (.inl (by show w.heap.size < _; omega)) _)
              (by omega) (by simp; omega) (by omega) (by simp; omega) (.inl (Nat.le_refl _)) ((hbz2.setCell (Nat.le_refl _) _).setCell (Nat.le_refl _) _)
          · have HNil : Hid (r = (([], []), false)) := by
              show _ = _
              rw [← HR.out]
              exact trRead_end HFi.out hq
            have hqs := str_cmp2 (s := s) (by rw [← HL.out]; exact hq)
            clear hq h0
            unfold StrIs at HT
            generalize str (transT us vs) = qq at *
            generalize us.length = un at *
            generalize vs.length = vn at *
            go_wp2_with fail
            refine HT.out.mono ?_
            rintro e w2 ⟨rfl, hb2⟩
            have hgw : w.heap.size < wr.heap.size := by omega
            rw [← (bcell hb2).1 _ _ hgw] at r0 r1
            rw [← (bcell hb2).2 _ _ hgw] at q0 q1
            have hbz2 := hbz.trans (hb2.mono hbz.size)
            clear hb2 e0 e1 f0 f1
            go_wp2
            exact bodyPost_ret (v := .tuple #[.agg #[.slice none 0 0, .slice none 0 0], .bool false]) (by simp [results, Tryd.results40, go_sem, r0, r1, q0, q1]) rfl (TrIs.nil_ HNil.out ((hbz2.setCell (Nat.le_refl _) _).setCell (Nat.le_refl _) _))

end Go.Proofs.YtplioelpmfeabaaDoor
