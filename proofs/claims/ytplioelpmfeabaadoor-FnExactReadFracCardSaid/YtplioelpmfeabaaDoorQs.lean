/- The walk of the reference's ReadFrac. -/
import Derived.Test.YtplioelpmfeabaaDoorQr
namespace Go.Proofs.YtplioelpmfeabaaDoor
open Go.RowKit
set_option linter.unusedVariables false
set_option linter.unusedSimpArgs false

def FracB (r : Int × Int × Bool) (w : World) (e : Ending) (w' : World) : Prop := e = .returned (.tuple #[.agg #[.int .i64 r.1, .int .i64 r.2.1], .bool r.2.2]) ∧ Below w.heap.size w w'
theorem ret_fracB {r : Int × Int × Bool} {n d : Int} {b : Bool} {w w' : World} (h : r = (n, d, b)) (hb : Below w.heap.size w w') : FracB r w (.returned (.tuple #[.agg #[.int .i64 n, .int .i64 d], .bool b])) w' := by
  subst h
  exact ⟨rfl, hb⟩
/-- What the reference knows of a text when it stands before the compare. -/
def Tail (l : List UInt8) (h : List UInt8) (d : Int) : Prop := ∀ n' d', okF n' d' = true → frT n' d' = l → d' = d ∧ int10 h = (n', true)
theorem Tail.no1 {l h : List UInt8} {d n : Int} (H : Tail l h d) (hn : int10 h = (n, false)) : fracRead l = (0, 0, false) := fracRead_no fun n' d' h1 h2 => by
  have := (H n' d' h1 h2).2
  rw [hn] at this
  injection this with _ e
  cases e
theorem Tail.no2 {l h : List UInt8} {d n : Int} (H : Tail l h d) (hn : int10 h = (n, true)) (hne : ¬ fracT n d = l) : fracRead l = (0, 0, false) := fracRead_no fun n' d' h1 h2 => by
  obtain ⟨rfl, h3⟩ := H n' d' h1 h2
  rw [hn] at h3
  injection h3 with e
  subst e
  exact hne ((fracT_yes h1).symm.trans h2)
theorem int10_nil : int10 [] = (0, false) := rfl
theorem str_cmp {a : List UInt8} {s : ByteArray} (h : ¬ a = s.data.toList) : ((str a).toList == s.toList) = false := by
  rw [beq_eq_false_iff_ne, toList_str, Lib.toList_data]
  exact h
theorem getD_byte (s : ByteArray) (k : Nat) (h : k < s.size) : s.data.toList.getD k 0 = s[k] := by
  rw [List.getD_eq_getElem?_getD, List.getElem?_eq_getElem (by rw [← Lib.size_eq]; exact h)]
  rfl
theorem byte47 {c : UInt8} (h : c ≠ 47) : ((c.toNat : Int) == 47) = false := by
  rw [beq_eq_false_iff_ne]
  intro e
  exact h (UInt8.toNat_inj.1 (by show c.toNat = 47; omega))

set_option maxRecDepth 100000 in
set_option maxHeartbeats 4000000 in
theorem specReadFrac_any (s : ByteArray) (w : World) (hs : s.size ≤ 1048576) : Calls Tryd.prog 24 #[.string s] w (FracB (fracRead s.data.toList) w) := by
  obtain ⟨l, hl⟩ : ∃ l, l = s.data.toList := ⟨_, rfl⟩
  rw [← hl]
  have HL := Lib.hid hl
  have hsz : Hid (l.length = s.size) := by show _ = _; rw [hl, ← Lib.size_eq]
  clear hl
  generalize hr : fracRead l = r at *
  have HR := Lib.hid hr
  clear hr
  go_enter Tryd.func24, Tryd.ntmps24
  go_wp2
  have hb0 : Below w.heap.size w ((w.alloc (.cells #[.int .i64 0, .int .i64 0] 34)).alloc (.cells #[.int .i64 0, .int .i64 1] 34)) := by (repeat (first | exact Below.refl _ _ | assumption | refine Below.setCell ?_ (by (try simp) <;> omega) _ | refine Below.alloc ?_ (by (try simp) <;> omega) _ | refine below_drewN_ ?_ | refine Below.drew ?_))
  have r0 : ((w.alloc (.cells #[.int .i64 0, .int .i64 0] 34)).alloc (.cells #[.int .i64 0, .int .i64 1] 34)).cell? ⟨w.heap.size, 0, none⟩ = some (.int .i64 0) := by go_simp
  have r1 : ((w.alloc (.cells #[.int .i64 0, .int .i64 0] 34)).alloc (.cells #[.int .i64 0, .int .i64 1] 34)).cell? ⟨w.heap.size, 1, none⟩ = some (.int .i64 0) := by go_simp
  have e0 : ((w.alloc (.cells #[.int .i64 0, .int .i64 0] 34)).alloc (.cells #[.int .i64 0, .int .i64 1] 34)).cell? ⟨w.heap.size + 1, 0, none⟩ = some (.int .i64 0) := by go_simp
  have e1 : ((w.alloc (.cells #[.int .i64 0, .int .i64 0] 34)).alloc (.cells #[.int .i64 0, .int .i64 1] 34)).cell? ⟨w.heap.size + 1, 1, none⟩ = some (.int .i64 1) := by go_simp
  have q0 : ((w.alloc (.cells #[.int .i64 0, .int .i64 0] 34)).alloc (.cells #[.int .i64 0, .int .i64 1] 34)).frozen? ⟨w.heap.size, 0, none⟩ = false := by go_simp
  have q1 : ((w.alloc (.cells #[.int .i64 0, .int .i64 0] 34)).alloc (.cells #[.int .i64 0, .int .i64 1] 34)).frozen? ⟨w.heap.size, 1, none⟩ = false := by go_simp
  have p0 : ((w.alloc (.cells #[.int .i64 0, .int .i64 0] 34)).alloc (.cells #[.int .i64 0, .int .i64 1] 34)).frozen? ⟨w.heap.size + 1, 0, none⟩ = false := by go_simp
  have p1 : ((w.alloc (.cells #[.int .i64 0, .int .i64 0] 34)).alloc (.cells #[.int .i64 0, .int .i64 1] 34)).frozen? ⟨w.heap.size + 1, 1, none⟩ = false := by go_simp
  have HZ : w.heap.size + 1 < ((w.alloc (.cells #[.int .i64 0, .int .i64 0] 34)).alloc (.cells #[.int .i64 0, .int .i64 1] 34)).heap.size := by simp
  generalize (w.alloc (.cells #[.int .i64 0, .int .i64 0] 34)).alloc (.cells #[.int .i64 0, .int .i64 1] 34) = W0 at *
  go_loop [5, 6] (fun v i => ∃ (k : Nat), k ≤ s.size ∧ v = .string s ∧ i = .int .i64 k ∧ Hid (∀ j, j < k → l.getD j 0 ≠ 47)) (fun _ i => s.size - (intOf i).toNat)
  case atStart => exact ⟨0, by omega, rfl, rfl, Lib.hid (fun j hj => absurd hj (by omega))⟩
  case round =>
    obtain ⟨k, hk, rfl, rfl, HN⟩ := hrel
    by_cases hlt : k < s.size
    · by_cases hc : s[k] = 47
      · have h47 : ((s[k].toNat : Int) == 47) = true := by rw [hc]; rfl
        have HF : Hid (FirstAt 47 l k) := ⟨by rw [hsz.out]; exact hlt, by rw [HL.out, getD_byte s k hlt]; exact hc, HN.out⟩
        clear hc HN
        have ha : Hid ((s.extract 0 k).data.toList = l.take k) := by show _ = _; rw [Lib.extract_data, HL.out]; simp
        have hd : Hid ((s.extract (k + 1) s.size).data.toList = l.drop (k + 1)) := by
          show _ = _
          rw [Lib.extract_data, HL.out, List.take_of_length_le]
          rw [List.length_drop, ← Lib.size_eq]; exact Nat.le_refl _
        have ha2 : (s.extract 0 k).size ≤ 1048576 := by rw [Lib.size_eq, ha.out, List.length_take]; omega
        have hd2 : (s.extract (k + 1) s.size).size ≤ 1048576 := by rw [Lib.size_eq, hd.out, List.length_drop]; have := hsz.out; omega
        cases hI : int10 (l.drop (k + 1)) with
        | mk dv bv =>
        have HI := Lib.hid hI
        have DD : Hid (∀ w', Calls Tryd.prog 55 #[.string (s.extract (k + 1) s.size)] w' (NumB (dv, bv) w')) := fun w' => by
          have := l02Int_any (s.extract (k + 1) s.size) w' hd2
          rwa [hd.out, hI] at this
        cases hJ : int10 (l.take k) with
        | mk n b =>
        have HJ := Lib.hid hJ
        have DN : Hid (∀ w', Calls Tryd.prog 55 #[.string (s.extract 0 k)] w' (NumB (n, b) w')) := fun w' => by
          have := l02Int_any (s.extract 0 k) w' ha2
          rwa [ha.out, hJ] at this
        have bn := int10_bound hJ
        have bd := int10_bound hI
        obtain ⟨bn1, bn2⟩ := bn
        obtain ⟨bd1, bd2⟩ := bd
        have FT : Hid (∀ w', Calls Tryd.prog 21 #[.agg #[.int .i64 n, .int .i64 dv]] w' (StrIs (fracT n dv) w')) := fun w' => specFracText_any n dv w' ⟨by omega, by omega⟩ ⟨by omega, by omega⟩
        have HT : Hid (bv = true → Tail l (l.take k) dv) := fun hb n' d' h1 h2 => by
          have h3 := frac_slash HF.out h1 h2
          rw [h3.2] at HI
          have h4 := HI.out
          injection h4 with h4 _
          exact ⟨h4, h3.1⟩
        have HD0 : Hid (bv = false → fracRead l = (0, 0, false)) := fun hb => fracRead_no fun n' d' h1 h2 => by
          have h3 := (frac_slash HF.out h1 h2).2
          rw [HI.out, hb] at h3
          injection h3 with _ e
          cases e
        have HNE : Hid (l ≠ []) := fun e => by have h := HF.out.lt; rw [e] at h; exact absurd h (by simp)
        generalize l.take k = lh at *
        clear HI hI hJ ha hd ha2 hd2 HF
        go_wp2_with fail
        generalize s.extract 0 k = qa at *
        generalize s.extract (k + 1) s.size = qd at *
        refine (DD.out _).mono ?_
        rintro e w1 ⟨rfl, hb1⟩
        obtain ⟨hc1, hf1⟩ := bcell hb1
        have hz1 := hb1.size
        have hb := nxt hb0 hb1 hb0.size
        rw [← hc1 _ _ (by omega)] at r0 r1 e0 e1
        rw [← hf1 _ _ (by omega)] at q0 q1 p0 p1
        clear hb1 hc1 hf1 hb0
        have HZ1 : w.heap.size + 1 < w1.heap.size := by omega
        cases bv
        · have HRR := HD0.out rfl
          have HR2 : Hid (r = (0, 0, false)) := by show _ = _; rw [← HR.out]; exact HRR
          clear HRR HD0 HT
          go_wp2
          exact bodyPost_ret (v := .tuple #[.agg #[.int .i64 0, .int .i64 0], .bool false]) (by simp [results, Tryd.results24, go_sem, r0, r1, q0, q1]) rfl (ret_fracB HR2.out (by first | exact (hb.setCell (by simp) _).setCell (by simp) _ | exact (hbb.setCell (by simp) _).setCell (by simp) _ | exact ((hbb.setCell (by simp) _).setCell (by simp) _).setCell (by simp) _))
        · have HTT := Lib.hid (HT.out rfl)
          clear HD0 HT
          go_wp2_with fail
          have HBW : Below w.heap.size w (w1.setCell ⟨w.heap.size + 1, 1, none⟩ (.int .i64 dv)) := hb.setCell (by simp) _
          have a0 : (w1.setCell ⟨w.heap.size + 1, 1, none⟩ (.int .i64 dv)).cell? ⟨w.heap.size, 0, none⟩ = some (.int .i64 0) := by go_simp
          have a1 : (w1.setCell ⟨w.heap.size + 1, 1, none⟩ (.int .i64 dv)).cell? ⟨w.heap.size, 1, none⟩ = some (.int .i64 0) := by go_simp
          have a2 : (w1.setCell ⟨w.heap.size + 1, 1, none⟩ (.int .i64 dv)).cell? ⟨w.heap.size + 1, 0, none⟩ = some (.int .i64 0) := by go_simp
          have a3 : (w1.setCell ⟨w.heap.size + 1, 1, none⟩ (.int .i64 dv)).cell? ⟨w.heap.size + 1, 1, none⟩ = some (.int .i64 dv) := by go_simp
          have b0 : (w1.setCell ⟨w.heap.size + 1, 1, none⟩ (.int .i64 dv)).frozen? ⟨w.heap.size, 0, none⟩ = false := by go_simp
          have b1 : (w1.setCell ⟨w.heap.size + 1, 1, none⟩ (.int .i64 dv)).frozen? ⟨w.heap.size, 1, none⟩ = false := by go_simp
          have b2 : (w1.setCell ⟨w.heap.size + 1, 1, none⟩ (.int .i64 dv)).frozen? ⟨w.heap.size + 1, 0, none⟩ = false := by go_simp
          have b3 : (w1.setCell ⟨w.heap.size + 1, 1, none⟩ (.int .i64 dv)).frozen? ⟨w.heap.size + 1, 1, none⟩ = false := by go_simp
          have HZ2 : w.heap.size + 1 < (w1.setCell ⟨w.heap.size + 1, 1, none⟩ (.int .i64 dv)).heap.size := by simp; omega
          clear r0 r1 e0 e1 q0 q1 p0 p1 hb
          generalize w1.setCell ⟨w.heap.size + 1, 1, none⟩ (.int .i64 dv) = W1 at *
          refine (DN.out _).mono ?_
          rintro e w2 ⟨rfl, hb2⟩
          obtain ⟨hc2, hf2⟩ := bcell hb2
          have hz2 := hb2.size
          have hbb := nxt HBW hb2 (HBW).size
          rw [← hc2 _ _ (by omega)] at a0 a1 a2 a3
          rw [← hf2 _ _ (by omega)] at b0 b1 b2 b3
          clear hb2 hc2 hf2 HBW
          have HZ3 : w.heap.size + 1 < w2.heap.size := by omega
          cases b
          · have HR2 : Hid (r = (0, 0, false)) := by show _ = _; rw [← HR.out]; exact HTT.out.no1 HJ.out
            go_wp2
            exact bodyPost_ret (v := .tuple #[.agg #[.int .i64 0, .int .i64 0], .bool false]) (by simp [results, Tryd.results24, go_sem, a0, a1, b0, b1]) rfl (ret_fracB HR2.out (by first | exact (hb.setCell (by simp) _).setCell (by simp) _ | exact (hbb.setCell (by simp) _).setCell (by simp) _ | exact ((hbb.setCell (by simp) _).setCell (by simp) _).setCell (by simp) _))
          · go_wp2_with fail
            refine (FT.out _).mono ?_
            rintro e w3 ⟨rfl, hb3⟩
            obtain ⟨hc3, hf3⟩ := bcell hb3
            have hz3 := hb3.size
            simp at hz3
            have hbc : Below w.heap.size w w3 := nxt (hbb.setCell (by simp) _) hb3 (by simp; omega)
            have t0 : w3.cell? ⟨w.heap.size, 0, none⟩ = some (.int .i64 0) := (hc3 _ _ (by simp; omega)).trans (by go_simp)
            have t1 : w3.cell? ⟨w.heap.size, 1, none⟩ = some (.int .i64 0) := (hc3 _ _ (by simp; omega)).trans (by go_simp)
            have t2 : w3.cell? ⟨w.heap.size + 1, 0, none⟩ = some (.int .i64 n) := (hc3 _ _ (by simp; omega)).trans (by go_simp)
            have t3 : w3.cell? ⟨w.heap.size + 1, 1, none⟩ = some (.int .i64 dv) := (hc3 _ _ (by simp; omega)).trans (by go_simp)
            have u0 : w3.frozen? ⟨w.heap.size, 0, none⟩ = false := (hf3 _ _ (by simp; omega)).trans (by go_simp)
            have u1 : w3.frozen? ⟨w.heap.size, 1, none⟩ = false := (hf3 _ _ (by simp; omega)).trans (by go_simp)
            clear hb3 hc3 hf3 a0 a1 a2 a3 b0 b1 b2 b3 hbb
            by_cases hq : fracT n dv = l
            · have HR2 : Hid (r = (n, dv, true)) := by show _ = _; rw [← HR.out]; exact fracRead_yes hq HNE.out
              have hqs : str (fracT n dv) = s := by rw [hq, HL.out]; exact (str_of s).symm
              rw [hqs]
              clear hq hqs
              go_wp2
              exact bodyPost_ret (v := .tuple #[.agg #[.int .i64 n, .int .i64 dv], .bool true]) (by simp [results, Tryd.results24, go_sem, t0, t1, u0, u1]) rfl (ret_fracB HR2.out (by exact (hbc.setCell (by simp) _).setCell (by simp) _))
            · have HR2 : Hid (r = (0, 0, false)) := by show _ = _; rw [← HR.out]; exact HTT.out.no2 HJ.out hq
              have hqs := str_cmp (s := s) (by rw [← HL.out]; exact hq)
              clear hq
              generalize str (fracT n dv) = q at *
              go_wp2
              exact bodyPost_ret (v := .tuple #[.agg #[.int .i64 0, .int .i64 0], .bool false]) (by simp [results, Tryd.results24, go_sem, t0, t1, u0, u1]) rfl (ret_fracB HR2.out (by exact (hbc.setCell (by simp) _).setCell (by simp) _))
      · have h47 := byte47 hc
        have HN2 : Hid (∀ j, j < k + 1 → l.getD j 0 ≠ 47) := fun j hj => by
          rcases Nat.lt_or_ge j k with h1 | h1
          · exact HN.out j h1
          · have h2 : j = k := by omega
            rw [h2, HL.out, getD_byte s k hlt]; exact hc
        clear hc HN
        go_wp2
        go_round
        case rel => exact ⟨k + 1, by omega, rfl, by go_num, HN2⟩
        case measure => simp [intOf]; omega
    · have hkn : k = s.size := by omega
      have HNS : Hid (∀ j, j < l.length → l.getD j 0 ≠ 47) := fun j hj => HN.out j (by rw [hkn, ← hsz.out]; exact hj)
      clear HN
      cases hJ : int10 l with
      | mk n b =>
      have HJ := Lib.hid hJ
      have DN : Hid (∀ w', Calls Tryd.prog 55 #[.string s] w' (NumB (n, b) w')) := fun w' => by
        have := l02Int_any s w' hs
        rwa [← HL.out, hJ] at this
      have bn := int10_bound hJ
      obtain ⟨bn1, bn2⟩ := bn
      have FT : Hid (∀ w', Calls Tryd.prog 21 #[.agg #[.int .i64 n, .int .i64 1]] w' (StrIs (fracT n 1) w')) := fun w' => specFracText_any n 1 w' ⟨by omega, by omega⟩ ⟨by omega, by omega⟩
      have HTT : Hid (Tail l l 1) := fun n' d' h1 h2 => frac_noslash HNS.out h1 h2
      have HNE : Hid (b = true → l ≠ []) := fun hb e => by
        have h := HJ.out
        rw [e, hb, int10_nil] at h
        injection h with _ h
        cases h
      clear hJ HNS
      go_wp2_with fail
      refine (DN.out _).mono ?_
      rintro e w2 ⟨rfl, hb2⟩
      obtain ⟨hc2, hf2⟩ := bcell hb2
      have hz2 := hb2.size
      have hbb := nxt hb0 hb2 (hb0).size
      rw [← hc2 _ _ (by omega)] at r0 r1 e0 e1
      rw [← hf2 _ _ (by omega)] at q0 q1 p0 p1
      clear hb2 hc2 hf2 hb0
      have HZ3 : w.heap.size + 1 < w2.heap.size := by omega
      cases b
      · have HR2 : Hid (r = (0, 0, false)) := by show _ = _; rw [← HR.out]; exact HTT.out.no1 HJ.out
        go_wp2
        exact bodyPost_ret (v := .tuple #[.agg #[.int .i64 0, .int .i64 0], .bool false]) (by simp [results, Tryd.results24, go_sem, r0, r1, q0, q1]) rfl (ret_fracB HR2.out (by first | exact (hb.setCell (by simp) _).setCell (by simp) _ | exact (hbb.setCell (by simp) _).setCell (by simp) _ | exact ((hbb.setCell (by simp) _).setCell (by simp) _).setCell (by simp) _))
      · go_wp2_with fail
        refine (FT.out _).mono ?_
        rintro e w3 ⟨rfl, hb3⟩
        obtain ⟨hc3, hf3⟩ := bcell hb3
        have hz3 := hb3.size
        simp at hz3
        have hbc : Below w.heap.size w w3 := nxt (hbb.setCell (by simp) _) hb3 (by simp; omega)
        have t0 : w3.cell? ⟨w.heap.size, 0, none⟩ = some (.int .i64 0) := (hc3 _ _ (by simp; omega)).trans (by go_simp)
        have t1 : w3.cell? ⟨w.heap.size, 1, none⟩ = some (.int .i64 0) := (hc3 _ _ (by simp; omega)).trans (by go_simp)
        have t2 : w3.cell? ⟨w.heap.size + 1, 0, none⟩ = some (.int .i64 n) := (hc3 _ _ (by simp; omega)).trans (by go_simp)
        have t3 : w3.cell? ⟨w.heap.size + 1, 1, none⟩ = some (.int .i64 1) := (hc3 _ _ (by simp; omega)).trans (by go_simp)
        have u0 : w3.frozen? ⟨w.heap.size, 0, none⟩ = false := (hf3 _ _ (by simp; omega)).trans (by go_simp)
        have u1 : w3.frozen? ⟨w.heap.size, 1, none⟩ = false := (hf3 _ _ (by simp; omega)).trans (by go_simp)
        clear hb3 hc3 hf3 r0 r1 e0 e1 q0 q1 p0 p1 hbb
        by_cases hq : fracT n 1 = l
        · have HR2 : Hid (r = (n, 1, true)) := by show _ = _; rw [← HR.out]; exact fracRead_yes hq (by first | exact HNE.out rfl | exact HNE.out trivial | exact HNE.out)
          have hqs : str (fracT n 1) = s := by rw [hq, HL.out]; exact (str_of s).symm
          rw [hqs]
          clear hq hqs
          go_wp2
          exact bodyPost_ret (v := .tuple #[.agg #[.int .i64 n, .int .i64 1], .bool true]) (by simp [results, Tryd.results24, go_sem, t0, t1, u0, u1]) rfl (ret_fracB HR2.out (by exact (hbc.setCell (by simp) _).setCell (by simp) _))
        · have HR2 : Hid (r = (0, 0, false)) := by show _ = _; rw [← HR.out]; exact HTT.out.no2 HJ.out hq
          have hqs := str_cmp (s := s) (by rw [← HL.out]; exact hq)
          clear hq
          generalize str (fracT n 1) = q at *
          go_wp2
          exact bodyPost_ret (v := .tuple #[.agg #[.int .i64 0, .int .i64 0], .bool false]) (by simp [results, Tryd.results24, go_sem, t0, t1, u0, u1]) rfl (ret_fracB HR2.out (by exact (hbc.setCell (by simp) _).setCell (by simp) _))

end Go.Proofs.YtplioelpmfeabaaDoor
