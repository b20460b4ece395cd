/- Walks: the text of a number, on both sides. -/
import Derived.Test.YtplioelpmfeabaaDoorRows
import Derived.Test.YtplioelpmfeabaaDoorQa
import Derived.Test.YtplioelpmfeabaaDoorQg
import Derived.Test.YtplioelpmfeabaaDoorSh
import Derived.WalkKit
import Derived.WalkSpells
import Derived.WalkLawsBesides
import Derived.Lib.Hide
import Derived.Lib.Slices
import Derived.Laws.IdiomStrings
import Derived.OwnWalk
import Derived.Lib.AppendIntMem
namespace Go.Proofs.YtplioelpmfeabaaDoor
open Go.RowKit
set_option linter.unusedVariables false
set_option linter.unusedSimpArgs false

theorem infoB : (Tryd.prog.info? 5).map (fun i => (i.zero, i.size, i.bytes)) = some (some (.int .u8 0), 1, 1) := by kernel_rfl
/-- A call that answers a text; what lay below is as it was. -/
def StrIs (l : List UInt8) (w : World) (e : Ending) (w' : World) : Prop := e = .returned (.string (str l)) ∧ Below w.heap.size w w'
theorem ret_str {a b : ByteArray} (h : a = b) : Ending.returned (.string a) = .returned (.string b) := by rw [h]

/-- string(b), b a slice of bytes of the call's own. -/
theorem conv_own {w : World} {lo hi : Nat} {A : Option Addr} {c : Nat} {l : List UInt8} (h : OwnG 5 w lo hi A c (bytesV l)) (hp : 0 < l.length) :
    (convert 76 9 (.slice A l.length c)).run Tryd.prog w = .ok (.string (str l)) w := by
  obtain ⟨g, rfl, _, _⟩ := h.form (by rw [bytesV_length]; exact hp)
  refine run_convert_bytes_back (P := Tryd.prog) w 76 9 5 ⟨g, 0, none⟩ c l Tryd.underlying76 Tryd.underlying5 Tryd.underlying9 (fun j hj => ?_)
  have := h.cell j (by rw [bytesV_length]; exact hj)
  rw [show ((⟨g, 0, none⟩ : Addr).add j) = ⟨g, j, none⟩ by unfold Addr.add; split <;> simp_all]
  rw [this]
  simp [bytesV, List.getD_eq_getElem?_getD, hj]

theorem dig_row {T : TypeId} {w : World} {lo hi : Nat} {A : Option Addr} {c : Nat} {l : List UInt8} {x : Int} {u : Nat} (h : OwnG T w lo hi A c ([.int .u8 x] ++ bytesV l)) (hx : x = 48 + ((u % 10 : Nat) : Int)) :
    OwnG T w lo hi A c (bytesV (UInt8.ofNat (48 + u % 10) :: l)) := by
  subst hx
  rw [bytesV_cons, ofNat_toNat (by omega)]
  exact h
theorem dec_step {m q : Int} {l D : List UInt8} (hm : m ≠ 0) (h : digs m.natAbs ++ l = D) (hq : q.natAbs = m.natAbs / 10) : digs q.natAbs ++ (UInt8.ofNat (48 + m.natAbs % 10) :: l) = D := by
  rw [hq, ← h, digs_step (u := m.natAbs) (by omega)]
  simp
theorem tmod_le {m : Int} (h : m ≤ 0) : -9 ≤ m.tmod 10 ∧ m.tmod 10 ≤ 0 ∧ -(m.tmod 10) = ((m.natAbs % 10 : Nat) : Int) := by
  obtain ⟨k, rfl⟩ : ∃ k : Nat, m = -(k : Int) := ⟨m.natAbs, by omega⟩
  rw [Int.neg_tmod, Int.natAbs_neg, Int.natAbs_natCast, show (k : Int).tmod 10 = ((k % 10 : Nat) : Int) from rfl]
  omega
theorem tdiv_le {m : Int} (h : m ≤ 0) (h' : -9223372036854775808 ≤ m) : -922337203685477580 ≤ m.tdiv 10 ∧ m.tdiv 10 ≤ 0 ∧ (m.tdiv 10).natAbs = m.natAbs / 10 := by
  obtain ⟨k, rfl⟩ : ∃ k : Nat, m = -(k : Int) := ⟨m.natAbs, by omega⟩
  rw [Int.neg_tdiv, Int.natAbs_neg, Int.natAbs_neg, Int.natAbs_natCast, show (k : Int).tdiv 10 = ((k / 10 : Nat) : Int) from rfl, Int.natAbs_natCast]
  omega

theorem str_append (a b : List UInt8) : str a ++ str b = str (a ++ b) := by
  apply ByteArray.ext
  simp [str]
set_option maxRecDepth 100000 in
set_option maxHeartbeats 1000000 in
theorem l01Dec_any (n : Int) (w : World) (hn : I64 n) : Calls Tryd.prog 44 #[.int .i64 n] w (StrIs (Lib.itoa n) w) := by
  have N1 := Lib.hid hn.1
  have N2 := Lib.hid hn.2
  obtain ⟨D, hD⟩ : ∃ D, D = digs n.natAbs := ⟨_, rfl⟩
  have hlen : D.length ≤ 20 := by rw [hD]; exact digs_len _ (by have h1 := hn.1; have h2 := hn.2; omega)
  have Z0 : Hid (n = 0 → Lib.itoa n = [48]) := fun h => by rw [h]; exact itoa_zero
  have Z1 : Hid (n < 0 → Lib.itoa n = 45 :: D) := fun h => by rw [hD]; exact itoa_neg' h
  have Z2 : Hid (0 < n → Lib.itoa n = D) := fun h => by rw [hD]; exact itoa_pos' h
  have D0 : Hid (n ≠ 0 → 0 < D.length) := fun h => by
    rw [hD, digs_pos (by omega)]
    exact List.length_pos_iff.2 (dec_ne _)
  have D1 : Hid (n = 0 → D = []) := fun h => by rw [hD, h]; rfl
  have HD : Hid (digs n.natAbs ++ [] = D) := by rw [List.append_nil]; exact hD.symm
  clear hD
  have HL := Lib.hid hlen
  clear hlen hn
  generalize Lib.itoa n = r at *
  go_enter Tryd.func44, Tryd.ntmps44
  go_wp2
  go_loopw [3, 4] (fun v k wr => ∃ (m : Int) (l : List UInt8) (A : Option Addr) (c : Nat), k = .int .i64 m ∧ -9223372036854775808 ≤ m ∧ m ≤ 9223372036854775807 ∧ v = .slice A l.length c ∧ Hid (digs m.natAbs ++ l = D) ∧ OwnG 5 wr w.heap.size wr.heap.size A c (bytesV l) ∧ Below w.heap.size w wr) (fun _ k _ => (intOf k).natAbs)
  case atStart => exact ⟨n, [], _, _, rfl, N1.out, N2.out, rfl, HD, OwnG.lit0 _ _, by (repeat (first | exact Below.refl _ _ | assumption | refine Below.setCell ?_ (by (try simp) <;> omega) _ | refine Below.alloc ?_ (by (try simp) <;> omega) _ | refine below_drewN_ ?_ | refine Below.drew ?_))⟩
  case round =>
    obtain ⟨m, l, A, c, rfl, hm1, hm2, rfl, HM, hown, hbr⟩ := hrel
    by_cases hz : m = 0
    · subst hz
      clear hm1 hm2
      have HM2 : Hid (l = D) := HM.out
      by_cases h0 : n = 0
      · have hl : l = [] := HM2.out.trans (D1.out h0)
        subst hl
        have HR := Lib.hid (Z0.out h0)
        clear hown h0 N1 N2
        go_wp2
        go_ret
        exact ⟨ret_str (by rw [HR.out]; rfl), hbr⟩
      · have hp : 0 < l.length := by rw [HM2.out]; exact D0.out h0
        have hcv := conv_own hown hp
        have hne : ((l.length : Int) == 0) = false := by rw [beq_eq_false_iff_ne]; omega
        have hsz : (str l).size ≤ 20 := by have := HL.out; rw [str_size, HM2.out]; omega
        by_cases h1 : n < 0
        · have HR := Lib.hid (Z1.out h1)
          go_wp2
          go_ret
          exact ⟨ret_str (by rw [HR.out, HM2.out]; exact str_append [45] D), hbr⟩
        · have HR := Lib.hid (Z2.out (by omega))
          have h2 : 0 ≤ n := by omega
          clear h1 h0
          go_wp2
          go_ret
          exact ⟨ret_str (by rw [HR.out, HM2.out]), hbr⟩
    · have hl : l.length ≤ 20 := by have h1 := HM.out; have h2 := HL.out; rw [← h1, List.length_append] at h2; omega
      have hsl := Lib.hid hown.sl
      have hnl := Lib.hid (fun h => hown.none_ h)
      have HW : Hid (w.heap.size ≤ wr.heap.size) := hbr.size
      by_cases hpos : 0 < m
      · go_wp2_with (at_builtin; refine wl_appGs rfl (.tmp 21) (.tmp 22) 76 5 rfl Tryd.underlying76 (.int .u8 0) 1 infoB rfl (by omega) (by omega) _ _ [_] 1 rfl (OwnG.lit1 _ _ _) rfl wr.heap.size A c (bytesV l) (bytesV_one l) l.length rfl (hsl.out.below ((Below.refl _ _).alloc (Nat.le_refl _) _) (Nat.le_refl _)) (bytesV_length l).symm hnl.out (by omega) (by simp) ?_)
        intro A' c' w' hown' hb'
        have hbr' := (hbr.alloc HW.out _).trans (hb'.mono HW.out)
        clear hb'
        go_wp2
        go_roundw
        case rel => exact ⟨_, _, A', c', rfl, by omega, by omega, by simp only [List.length_cons]; go_num, dec_step hz HM.out (by omega), dig_row (hown'.mono HW.out (Nat.le_refl _)) (by omega), hbr'⟩
        case measure => simp [intOf]; omega
      · obtain ⟨t1, t2, t3⟩ := tmod_le (m := m) (by omega)
        obtain ⟨q1, q2, q3⟩ := tdiv_le (m := m) (by omega) hm1
        have T3 := Lib.hid t3
        have Q3 := Lib.hid q3
        clear t3 q3
        go_wp2_with (at_builtin; refine wl_appGs rfl (.tmp 21) (.tmp 22) 76 5 rfl Tryd.underlying76 (.int .u8 0) 1 infoB rfl (by omega) (by omega) _ _ [_] 1 rfl (OwnG.lit1 _ _ _) rfl wr.heap.size A c (bytesV l) (bytesV_one l) l.length rfl (hsl.out.below ((Below.refl _ _).alloc (Nat.le_refl _) _) (Nat.le_refl _)) (bytesV_length l).symm hnl.out (by omega) (by simp) ?_)
        all_goals
          intro A' c' w' hown' hb'
          have hbr' := (hbr.alloc HW.out _).trans (hb'.mono HW.out)
          clear hb'
          go_wp2
          go_roundw
          case rel =>
            have t3 := T3.out
            exact ⟨_, _, A', c', rfl, by omega, by omega, by simp only [List.length_cons]; go_num, dec_step hz HM.out Q3.out, dig_row (hown'.mono HW.out (Nat.le_refl _)) (by omega), hbr'⟩
          case measure =>
            have e : m.natAbs.div 10 = m.natAbs / 10 := rfl
            simp [intOf]; omega

theorem specDecimal_any (n : Int) (w : World) (hn : I64 n) : Calls Tryd.prog 12 #[.int .i64 n] w (StrIs (Lib.itoa n) w) := by
  have HC := Lib.hid (l01Dec_any n w hn)
  clear hn
  generalize Lib.itoa n = r at *
  go_enter Tryd.func12, Tryd.ntmps12
  go_wp2_with fail
  refine HC.out.mono ?_
  rintro e w' ⟨rfl, hb⟩
  go_wp2
  go_ret
  exact ⟨rfl, hb⟩

/-- The table that the library's numerals read lies as its initialiser laid it. -/
def PowIs (w : World) : Prop := Lib.TabBelow Tryd.prog w.heap.size w "internal/strconv.uint64pow10" .u64 Lib.pow10Tab
theorem PowIs.below {w w' : World} {B : Nat} (h : Lib.TabBelow Tryd.prog B w "internal/strconv.uint64pow10" .u64 Lib.pow10Tab) (hb : Below B w w') : Lib.TabBelow Tryd.prog B w' "internal/strconv.uint64pow10" .u64 Lib.pow10Tab := h.on hb

theorem implDecimal_any (n : Int) (w : World) (B : Nat) (hn : I64 n) (hT : Lib.TabBelow Tryd.prog B w "internal/strconv.uint64pow10" .u64 Lib.pow10Tab) : Calls Tryd.prog 13 #[.int .i64 n] w (StrIs (Lib.itoa n) w) := by
  have HC := Lib.hid (Tryd.strconv_FormatInt_10 n hn.1 hn.2 w hT.here)
  clear hn hT
  generalize Lib.itoa n = r at *
  go_enter Tryd.func13, Tryd.ntmps13
  go_wp2_with fail
  refine HC.out.mono ?_
  rintro e w' ⟨rfl, k, os, rfl⟩
  have hb : Below w.heap.size w (Sort.grow (w.drewN k) os) := ⟨rfl, rfl, rfl, by simp [Sort.grow, World.drewN], fun i hi => by
    show (w.heap ++ os)[i]? = w.heap[i]?
    rw [Array.getElem?_append_left hi]⟩
  generalize Sort.grow (w.drewN k) os = w1 at *
  go_wp2
  go_ret
  exact ⟨rfl, hb⟩

end Go.Proofs.YtplioelpmfeabaaDoor
