/- Walks: the laws' marks in slices of texts. -/
import Derived.Test.YtplioelpmfeabaaDoorQh
import Derived.Deep.RegionHeld3
namespace Go.Proofs.YtplioelpmfeabaaDoor
open Go.RowKit
set_option linter.unusedVariables false
set_option linter.unusedSimpArgs false

/-- The mark of a number. -/
def markT (k : Int) : List UInt8 := 109 :: digs k.natAbs

theorem conv_one (w : World) (c : UInt8) (x : Int) (hx : x = c.toNat) :
    (convert 76 9 (.slice (some ⟨w.heap.size, 0, none⟩) 1 1)).run Tryd.prog (w.alloc (.cells #[.int .u8 x] 5)) = .ok (.string (str [c])) (w.alloc (.cells #[.int .u8 x] 5)) := by
  subst hx
  exact conv_own (l := [c]) (OwnG.lit1 5 w (.int .u8 c.toNat)) (by simp)

set_option maxRecDepth 100000 in
set_option maxHeartbeats 1000000 in
theorem markText_any (n : Int) (w : World) (h1 : 1 ≤ n) (h2 : n ≤ 1099511627776) : Calls Tryd.prog 51 #[.int .i64 n] w (StrIs (markT n) w) := by
  obtain ⟨D, hD⟩ : ∃ D, D = digs n.natAbs := ⟨_, rfl⟩
  have hlen : D.length ≤ 20 := by rw [hD]; exact digs_len _ (by omega)
  have HR : Hid (markT n = 109 :: D) := by rw [hD]; rfl
  have HD : Hid (digs n.natAbs ++ [] = D) := by rw [List.append_nil]; exact hD.symm
  clear hD
  have HL := Lib.hid hlen
  clear hlen
  generalize markT n = r at *
  go_enter Tryd.func51, Tryd.ntmps51
  go_wp2
  go_loopw [0, 3] (fun k v wr => ∃ (m : Int) (l : List UInt8), k = .int .i64 m ∧ 0 ≤ m ∧ m ≤ 1099511627776 ∧ v = .string (str l) ∧ Hid (digs m.natAbs ++ l = D) ∧ Below w.heap.size w wr) (fun k _ _ => (intOf k).natAbs)
  case atStart => exact ⟨n, [], rfl, by omega, by omega, rfl, HD, Below.refl _ _⟩
  case round =>
    obtain ⟨m, l, rfl, hm1, hm2, rfl, HM, hbr⟩ := hrel
    have hl : l.length ≤ 20 := by have h1 := HM.out; have h2 := HL.out; rw [← h1, List.length_append] at h2; omega
    have hls : (str l).size ≤ 20 := by rw [str_size]; exact hl
    by_cases hpos : 0 < m
    · have hcv := conv_one wr (UInt8.ofNat (48 + m.natAbs % 10)) (48 + m % 10) (by rw [ofNat_toNat (by omega)]; omega)
      have hqs : (str [UInt8.ofNat (48 + m.natAbs % 10)]).size ≤ 1 := by rw [str_size]; simp
      have HS : Hid (str [UInt8.ofNat (48 + m.natAbs % 10)] ++ str l = str (UInt8.ofNat (48 + m.natAbs % 10) :: l)) := str_append _ _
      have HN : Hid (digs (m / 10).natAbs ++ (UInt8.ofNat (48 + m.natAbs % 10) :: l) = D) := dec_step (by omega) HM.out (by omega)
      generalize UInt8.ofNat (48 + m.natAbs % 10) = ch at *
      generalize str [ch] = q at *
      obtain ⟨p, hp⟩ : ∃ p, p = str l := ⟨_, rfl⟩
      rw [← hp] at hls HS ⊢
      clear hp
      have HZ := Lib.hid hbr.size
      go_wp2
      go_roundw
      case rel => exact ⟨m / 10, ch :: l, rfl, by omega, by omega, by rw [HS.out], HN, hbr.alloc HZ.out _⟩
      case measure => simp [intOf]; omega
    · have hm0 : m = 0 := by omega
      subst hm0
      have HM2 : Hid (l = D) := HM.out
      have HS : Hid (str [109] ++ str l = str (109 :: D)) := by show _ = _; rw [HM2.out]; exact str_append _ _
      generalize str l = p at *
      go_wp2
      go_ret
      exact ⟨ret_str (by rw [HR.out]; exact HS.out), hbr⟩

/-- The texts k, k + 1, .. are the marks. -/
def MarkedS (k : Int) (ls : List (List UInt8)) : Prop := ∀ j, j < ls.length → ls.getD j [] = markT (k + j)
/-- What markStringS leaves. -/
def MarkSP (lo hi : Nat) (A : Option Addr) (c : Nat) (n : Nat) (k : Int) (w : World) (e : Ending) (w' : World) : Prop :=
  e = .returned (.int .i64 (k + n)) ∧ ∃ ls, ls.length = n ∧ MarkedS k ls ∧ OwnG 9 w' lo hi A c (strV ls) ∧ Only lo hi w w'
theorem Only.of_far {lo hi B : Nat} {w w' : World} (h : Below B w w') (hB : w.heap.size ≤ B) : Only lo hi w w' := ⟨h.os, h.tape, h.output, h.size, fun k hk _ => h.block k (by omega)⟩
theorem OwnG.same {T : TypeId} {w w' : World} {lo hi : Nat} {A : Option Addr} {c : Nat} {vs : List Value} (h : OwnG T w lo hi A c vs) (hb : Below w.heap.size w w') : OwnG T w' lo hi A c vs := by
  refine ⟨⟨h.1.1, ?_⟩, h.2⟩
  rcases h.1.2 with h0 | ⟨g, cap, cur, hv, hl, hg, r⟩
  · exact .inl h0
  · exact .inr ⟨g, cap, cur, hv, hl, by rw [hb.block g (Array.getElem?_eq_some_iff.1 hg).1]; exact hg, r⟩
theorem strV_set (ls : List (List UInt8)) (j : Nat) (p : List UInt8) : (strV ls).set j (.string (str p)) = strV (ls.set j p) := by simp [strV, List.map_set]
theorem markedS_step {k : Int} {ls : List (List UInt8)} {j : Nat} (hj : j < ls.length) (h : ∀ m, m < j → ls.getD m [] = markT (k + m)) : ∀ m, m < j + 1 → (ls.set j (markT (k + j))).getD m [] = markT (k + m) := by
  intro m hm
  rcases Nat.lt_or_ge m j with h1 | h1
  · rw [← h m h1]
    simp [List.getD_eq_getElem?_getD, show ¬ j = m by omega]
  · obtain rfl : m = j := by omega
    simp [List.getD_eq_getElem?_getD, hj]

set_option maxRecDepth 100000 in
set_option maxHeartbeats 1000000 in
theorem markStrs_any (A : Option Addr) (c : Nat) (ls : List (List UInt8)) (k : Int) (w : World) (lo hi : Nat) (h : OwnG 9 w lo hi A c (strV ls)) (hl : ls.length ≤ 1048577) (hk : 1 ≤ k) (hk' : k ≤ 1048576) :
    Calls Tryd.prog 19 #[.slice A ls.length c, .int .i64 k] w (MarkSP lo hi A c ls.length k w) := by
  have HO := Lib.hid h
  clear h
  obtain ⟨n, hn⟩ : ∃ n, n = ls.length := ⟨_, rfl⟩
  rw [← hn] at hl ⊢
  have HN := Lib.hid hn
  clear hn
  go_enter Tryd.func19, Tryd.ntmps19
  go_wp2
  go_loopw [1, 5] (fun s i wr => ∃ (j : Nat) (zs : List (List UInt8)), j ≤ n ∧ i = .int .i64 j ∧ s = .int .i64 (k + j) ∧ OwnG 9 wr lo hi A c (strV zs) ∧ zs.length = n ∧ (∀ m, m < j → zs.getD m [] = markT (k + m)) ∧ Only lo hi w wr) (fun _ i _ => n - (intOf i).toNat)
  case atStart => exact ⟨0, ls, by omega, rfl, by simp, HO.out, HN.out.symm, fun m hm => absurd hm (by omega), Only.refl _ _ _⟩
  case round =>
    obtain ⟨j, zs, hj, rfl, rfl, hown, hz, hm, honly⟩ := hrel
    have HZ := Lib.hid hz
    have HM := Lib.hid hm
    clear hz hm
    by_cases hlt : j < n
    · obtain ⟨g, rfl, hlo, hhi⟩ := hown.form (by rw [strV_length, HZ.out]; omega)
      have HG := Lib.hid hown
      clear hown
      go_wp2_with fail
      refine (markText_any _ _ (by omega) (by omega)).mono ?_
      rintro e w1 ⟨rfl, hb1⟩
      have hown1 := HG.out.same hb1
      have honly1 := honly.trans (Only.of_far hb1 (Nat.le_refl _))
      have e1 := hown1.cell j (by rw [strV_length, HZ.out]; exact hlt)
      have f1 := hown1.notFrozen j
      generalize (strV zs).getD j undef = x at e1
      have hown2 := hown1.set j (.string (str (markT (k + j))))
      rw [strV_set] at hown2
      have HO2 := Lib.hid hown2
      have HM2 := Lib.hid (markedS_step (k := k) (by rw [HZ.out]; exact hlt) HM.out)
      clear hown1 hown2 hb1
      obtain ⟨q, hq⟩ : ∃ q, q = markT (k + j) := ⟨_, rfl⟩
      rw [← hq] at HO2 HM2 ⊢
      clear hq
      go_wp2
      go_roundw
      case rel => exact ⟨j + 1, zs.set j q, by omega, by go_num, by go_num, HO2.out, by rw [List.length_set]; exact HZ.out, HM2.out, honly1.setCell hlo hhi _⟩
      case measure => simp [intOf]; omega
    · have hjn : j = n := by omega
      have HJ := Lib.hid hjn
      clear hjn
      go_wp2
      go_ret
      exact ⟨ret_int (by rw [HJ.out]), zs, HZ.out, fun m hm => HM.out m (by rw [HJ.out, ← HZ.out]; exact hm), hown, honly⟩

end Go.Proofs.YtplioelpmfeabaaDoor
