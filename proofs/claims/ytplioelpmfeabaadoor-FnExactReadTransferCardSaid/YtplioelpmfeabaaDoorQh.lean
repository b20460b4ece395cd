/- Walks: a text cut at blanks, on both sides; slices of texts compared. -/
import Derived.Test.YtplioelpmfeabaaDoorQe
import Derived.Test.YtplioelpmfeabaaDoorQb
import Derived.Deep.QuietTactic
import Derived.BigQuiet
namespace Go.Proofs.YtplioelpmfeabaaDoor
open Go.RowKit
set_option linter.unusedVariables false
set_option linter.unusedSimpArgs false

theorem infoT : (Tryd.prog.info? 9).map (fun i => (i.zero, i.size, i.bytes)) = some (some (.string ByteArray.empty), 1, 16) := by kernel_rfl

set_option maxHeartbeats 1000000 in
theorem eqStrs_any (A B : Option Addr) (c d : Nat) (ls : List (List UInt8)) (w : World) (B1 B2 : Nat) (h1 : SlG w B1 A (strV ls)) (h2 : SlG w B2 B (strV ls)) (hl : ls.length ≤ 1099511627776) :
    Calls Tryd.prog 18 #[.slice A ls.length c, .slice B ls.length d] w fun e w' => e = .returned (.bool true) ∧ Below w.heap.size w w' := by
  have H1 := Lib.hid h1
  have H2 := Lib.hid h2
  clear h1 h2
  have HN : Hid ((strV ls).length = ls.length) := strV_length ls
  have HG : Hid (∀ k, k < ls.length → (strV ls).getD k undef = .string (str (ls.getD k []))) := fun k hk => strV_get ls k hk
  generalize ls.length = n at *
  go_enter Tryd.func18, Tryd.ntmps18
  go_wp2
  go_loopw [5] (fun i wr => ∃ k m : Nat, k ≤ n ∧ i = .int .i64 k ∧ wr = w.drewN m) (fun i _ => n - (intOf i).toNat)
  case atStart => exact ⟨0, 0, by omega, rfl, rfl⟩
  case round =>
    obtain ⟨k, m, hk, rfl, rfl⟩ := hrel
    by_cases hlt : k < n
    · obtain ⟨b1, o1, rfl, l1, c1⟩ := H1.out (by rw [HN.out]; omega)
      obtain ⟨b2, o2, rfl, l2, c2⟩ := H2.out (by rw [HN.out]; omega)
      have e1 := c1 k (by rw [HN.out]; exact hlt)
      have e2 := c2 k (by rw [HN.out]; exact hlt)
      rw [HG.out k hlt] at e1 e2
      clear c1 c2
      generalize str (ls.getD k []) = x at *
      go_wp2
      go_quiet (fail)
      go_wp2
      go_roundw
      case rel => exact ⟨k + 1, _, by omega, by go_num, rfl⟩
      case measure => simp [intOf]; omega
    · go_wp2
      go_ret
      exact ⟨rfl, below_of_drewN w m⟩

theorem extract_str (s : ByteArray) (a b : Nat) : s.extract a b = str ((s.data.toList.drop a).take (b - a)) := by
  rw [str_of (s.extract a b), Lib.extract_data]
theorem cur_snoc (s : ByteArray) (a k : Nat) (ha : a ≤ k) (h : k < s.size) : (s.data.toList.drop a).take (k + 1 - a) = (s.data.toList.drop a).take (k - a) ++ [s[k]] := by
  have hl : k < s.data.toList.length := by rw [← Lib.size_eq]; exact h
  rw [show k + 1 - a = (k - a) + 1 by omega, List.take_succ_eq_append_getElem (by rw [List.length_drop]; omega)]
  congr 2
  rw [List.getElem_drop]
  have e : a + (k - a) = k := by omega
  simp only [e]
  rfl
theorem drop_cons (s : ByteArray) (k : Nat) (h : k < s.size) : s.data.toList.drop k = s[k] :: s.data.toList.drop (k + 1) := by
  have hl : k < s.data.toList.length := by rw [← Lib.size_eq]; exact h
  rw [List.drop_eq_getElem_cons hl]; rfl

set_option maxRecDepth 100000 in
set_option maxHeartbeats 2000000 in
theorem l01Split_any (s : ByteArray) (w : World) (hs : s.size ≤ 1048576) : Calls Tryd.prog 49 #[.string s, .int .u8 32] w (FreshG 9 (strV (pieces 32 s.data.toList)) w) := by
  obtain ⟨l, hl⟩ : ∃ l, l = s.data.toList := ⟨_, rfl⟩
  have HSt : Hid ([] ++ cutAt 32 ((l.drop 0).take (0 - 0)) (l.drop 0) = pieces 32 l) := by show _ = _; simp [pieces]
  rw [← hl]
  generalize pieces 32 l = ps at *
  have HL := Lib.hid hl
  clear hl
  go_enter Tryd.func49, Tryd.ntmps49
  go_wp2
  go_loopw [5, 6, 7] (fun v f i wr => ∃ (k fr : Nat) (out : List (List UInt8)) (A : Option Addr) (c : Nat), k ≤ s.size ∧ fr ≤ k ∧ out.length ≤ k ∧ i = .int .i64 k ∧ f = .int .i64 fr ∧ v = .slice A out.length c ∧
    Hid (out ++ cutAt 32 ((l.drop fr).take (k - fr)) (l.drop k) = ps) ∧ OwnG 9 wr w.heap.size wr.heap.size A c (strV out) ∧ Below w.heap.size w wr) (fun _ _ i _ => s.size - (intOf i).toNat)
  case atStart => exact ⟨0, 0, [], _, _, by omega, by omega, by simp, rfl, rfl, rfl, HSt, OwnG.lit0 _ _, by (repeat (first | exact Below.refl _ _ | assumption | refine Below.setCell ?_ (by (try simp) <;> omega) _ | refine Below.alloc ?_ (by (try simp) <;> omega) _ | refine below_drewN_ ?_ | refine Below.drew ?_))⟩
  case round =>
    obtain ⟨k, fr, out, A, c, hk, hfr, hout, rfl, rfl, rfl, HP, hown, hbr⟩ := hrel
    have hsz := hbr.size
    have HV : Hid (out.length = (strV out).length) := (strV_length out).symm
    by_cases hlt : k < s.size
    · have hdk := drop_cons s k hlt
      by_cases h32 : s[k] = 32
      · have b32 : ((s[k].toNat : Int) == 32) = true := by rw [h32]; rfl
        have HP2 : Hid ((out ++ [(l.drop fr).take (k - fr)]) ++ cutAt 32 ((l.drop (k + 1)).take (k + 1 - (k + 1))) (l.drop (k + 1)) = ps) := by
          show _ = _
          rw [← HP.out, HL.out, hdk, cutAt, if_pos h32]
          simp
        have HX : Hid (s.extract fr k = str ((l.drop fr).take (k - fr))) := by show _ = _; rw [HL.out]; exact extract_str s fr k
        clear hdk h32
        generalize (l.drop fr).take (k - fr) = cur at *
        go_wp2_with (at_builtin; refine wl_appG1 rfl (.tmp 20) (.tmp 25) 27 9 rfl Tryd.underlying27 (.string ByteArray.empty) 16 infoT rfl (by omega) (by omega) A c (strV out) _ rfl out.length rfl hown HV.out rfl (by omega) hsz ?_)
        intro A' c' w' hown' hb'
        rw [HX.out] at hown'
        have hown2 : OwnG 9 w' w.heap.size w'.heap.size A' c' (strV (out ++ [cur])) := by rw [strV_append]; exact hown'
        have hbr' := hbr.trans hb'
        clear hown' hb'
        go_wp2
        go_roundw
        case rel => exact ⟨k + 1, k + 1, out ++ [cur], A', c', by omega, by omega, by simp; omega, by go_num, by go_num, by simp, HP2, hown2, hbr'⟩
        case measure => simp [intOf]; omega
      · have b32 : ((s[k].toNat : Int) == 32) = false := by
          rw [beq_eq_false_iff_ne]
          intro e
          exact h32 (UInt8.toNat_inj.1 (by have : s[k].toNat = 32 := by omega
                                           rw [this]; rfl))
        have HP2 : Hid (out ++ cutAt 32 ((l.drop fr).take (k + 1 - fr)) (l.drop (k + 1)) = ps) := by
          show _ = _
          rw [← HP.out, HL.out, hdk, cutAt, if_neg h32, cur_snoc s fr k hfr hlt]
        clear hdk h32
        go_wp2
        go_roundw
        case rel => exact ⟨k + 1, fr, out, A, c, by omega, by omega, by omega, by go_num, rfl, rfl, HP2, hown, hbr⟩
        case measure => simp [intOf]; omega
    · have hks : k = s.size := by omega
      subst hks
      have HP2 : Hid (out ++ [(l.drop fr).take (s.size - fr)] = ps) := by
        show _ = _
        have e : s.data.toList.drop s.size = [] := List.drop_of_length_le (by rw [← Lib.size_eq]; exact Nat.le_refl _)
        rw [← HP.out, HL.out, e, cutAt]
      have HX : Hid (s.extract fr s.size = str ((l.drop fr).take (s.size - fr))) := by show _ = _; rw [HL.out]; exact extract_str s fr s.size
      generalize (l.drop fr).take (s.size - fr) = cur at *
      go_wp2_with (at_builtin; refine wl_appG1 rfl (.tmp 29) (.tmp 33) 27 9 rfl Tryd.underlying27 (.string ByteArray.empty) 16 infoT rfl (by omega) (by omega) A c (strV out) _ rfl out.length rfl hown HV.out rfl (by omega) hsz ?_)
      intro A' c' w' hown' hb'
      rw [HX.out] at hown'
      have hown2 : OwnG 9 w' w.heap.size w'.heap.size A' c' (strV ps) := by rw [← HP2.out, strV_append]; exact hown'
      have hbr' := hbr.trans hb'
      have HN : Hid (out.length + 1 = (strV ps).length) := by show _ = _; rw [← HP2.out, strV_length]; simp
      clear hown' hb'
      go_wp2
      go_ret
      exact freshG_mk HN.out hown2 (Nat.le_refl _) hbr'

/-- What is not empty. -/
def notEmpty (ls : List (List UInt8)) : List (List UInt8) := ls.filter fun p => !p.isEmpty
theorem notEmpty_skip {ls : List (List UInt8)} {k : Nat} (h : k < ls.length) (he : (ls.getD k []).isEmpty = true) : notEmpty (ls.take (k + 1)) = notEmpty (ls.take k) := by
  rw [List.take_succ_eq_append_getElem h]
  have e : ls.getD k [] = ls[k] := by simp [List.getD_eq_getElem?_getD, h]
  rw [e] at he
  have e2 : List.filter (fun p => !p.isEmpty) [ls[k]] = [] := by simp [List.filter_cons, he]
  unfold notEmpty
  rw [List.filter_append, e2, List.append_nil]
theorem notEmpty_keep {ls : List (List UInt8)} {k : Nat} (h : k < ls.length) (he : (ls.getD k []).isEmpty = false) : notEmpty (ls.take (k + 1)) = notEmpty (ls.take k) ++ [ls.getD k []] := by
  rw [List.take_succ_eq_append_getElem h]
  have e : ls.getD k [] = ls[k] := by simp [List.getD_eq_getElem?_getD, h]
  rw [e] at he ⊢
  have e2 : List.filter (fun p => !p.isEmpty) [ls[k]] = [ls[k]] := by simp [List.filter_cons, he]
  unfold notEmpty
  rw [List.filter_append, e2]
theorem notEmpty_le (ls : List (List UInt8)) (k : Nat) : (notEmpty (ls.take k)).length ≤ k :=
  Nat.le_trans (List.length_filter_le _ _) (by rw [List.length_take]; omega)

set_option maxRecDepth 100000 in
set_option maxHeartbeats 2000000 in
theorem specSplitWords_any (s : ByteArray) (w : World) (hs : s.size ≤ 1048576) : Calls Tryd.prog 16 #[.string s] w (FreshG 9 (strV (words s.data.toList)) w) := by
  have HC := Lib.hid (l01Split_any s w hs)
  have HW : Hid (notEmpty (pieces 32 s.data.toList) = words s.data.toList) := rfl
  have hps : (pieces 32 s.data.toList).length ≤ 1048577 := by have := pieces_length 32 s.data.toList; rw [← Lib.size_eq] at this; omega
  generalize words s.data.toList = ws at *
  generalize pieces 32 s.data.toList = ps at *
  have HN : Hid ((strV ps).length = ps.length) := strV_length ps
  clear hs
  go_enter Tryd.func16, Tryd.ntmps16
  go_wp2_with fail
  refine HC.out.mono ?_
  rintro e w1 ⟨A0, c0, rfl, hO0, hb1⟩
  rw [HN.out]
  have HO0 := Lib.hid hO0
  have HZ1 := Lib.hid hb1.size
  clear hO0 HC
  go_wp2
  go_loopw [4, 5] (fun v i wr => ∃ (k : Nat) (A : Option Addr) (c : Nat), k ≤ ps.length ∧ i = .int .i64 k ∧ v = .slice A (notEmpty (ps.take k)).length c ∧
    OwnG 9 wr w1.heap.size wr.heap.size A c (strV (notEmpty (ps.take k))) ∧ Below w1.heap.size w1 wr) (fun _ i _ => ps.length - (intOf i).toNat)
  case atStart => exact ⟨0, _, _, by omega, rfl, rfl, OwnG.lit0 _ _, by (repeat (first | exact Below.refl _ _ | assumption | refine Below.setCell ?_ (by (try simp) <;> omega) _ | refine Below.alloc ?_ (by (try simp) <;> omega) _ | refine below_drewN_ ?_ | refine Below.drew ?_))⟩
  case round =>
    obtain ⟨k, A, c, hk, rfl, rfl, hown, hbr⟩ := hrel
    have hsz := hbr.size
    have hne := notEmpty_le ps k
    by_cases hlt : k < ps.length
    · obtain ⟨b, o, rfl, hb, hcell⟩ := HO0.out.sl (by rw [HN.out]; omega)
      have e1 : wr.cell? ⟨b, o + k, none⟩ = some (.string (str (ps.getD k []))) := by
        rw [← strV_get ps k hlt, ← hcell k (by rw [HN.out]; exact hlt)]
        exact hbr.cell (p := ⟨b, o + k, none⟩) hb
      clear hcell
      cases g : (ps.getD k []).isEmpty
      · have HK := Lib.hid (notEmpty_keep hlt g)
        have hq : (str (ps.getD k [])).toList.isEmpty = false := by rw [Lib.toList_data]; exact g
        clear g
        have HV : Hid ((notEmpty (ps.take k)).length = (strV (notEmpty (ps.take k))).length) := (strV_length _).symm
        generalize notEmpty (ps.take k) = out at *
        generalize hpk : ps.getD k [] = p at *
        have HPK := Lib.hid hpk
        clear hpk
        obtain ⟨q, hqd⟩ : ∃ q, q = str p := ⟨_, rfl⟩
        rw [← hqd] at e1 hq
        have HQ := Lib.hid hqd
        clear hqd
        go_wp2_with (at_builtin; refine wl_appG1 rfl (.tmp 20) (.tmp 25) 27 9 rfl Tryd.underlying27 (.string ByteArray.empty) 16 infoT rfl (by omega) (by omega) A c (strV out) _ rfl out.length rfl hown HV.out rfl (by omega) hsz ?_)
        intro A' c' w' hown' hb'
        rw [HQ.out] at hown'
        have hown2 : OwnG 9 w' w1.heap.size w'.heap.size A' c' (strV (notEmpty (ps.take (k + 1)))) := by rw [HK.out, strV_append]; exact hown'
        have hbr' := hbr.trans hb'
        clear hown' hb'
        go_wp2
        go_roundw
        case rel => exact ⟨k + 1, A', c', by omega, by go_num, by rw [HK.out]; simp, hown2, hbr'⟩
        case measure => simp [intOf]; omega
      · have HK := Lib.hid (notEmpty_skip hlt g)
        have hq : (str (ps.getD k [])).toList.isEmpty = true := by rw [Lib.toList_data]; exact g
        clear g
        generalize str (ps.getD k []) = q at *
        go_wp2
        go_roundw
        case rel => exact ⟨k + 1, A, c, by omega, by go_num, by rw [HK.out], by rw [HK.out]; exact hown, hbr⟩
        case measure => simp [intOf]; omega
    · have HK : Hid (ps.take k = ps) := List.take_of_length_le (by omega)
      have HE : Hid (notEmpty (ps.take k) = ws) := by show _ = _; rw [HK.out]; exact HW.out
      go_wp2
      go_ret
      exact freshG_mk (by rw [HE.out, strV_length]) (by rw [← HE.out]; exact hown.mono HZ1.out (Nat.le_refl _)) (Nat.le_refl _) (hb1.trans (hbr.mono HZ1.out))

/-- The cell that the library's search reads holds a number. -/
structure MaxEnv (B : Nat) (w : World) : Prop where
  cell : ∃ m, w.cell? ⟨3, 0, none⟩ = some (.int .i64 m)
  big : 3 < B
theorem MaxEnv.below {B : Nat} {w w' : World} (h : MaxEnv B w) (hb : Below B w w') : MaxEnv B w' := by
  obtain ⟨m, hm⟩ := h.cell
  exact ⟨⟨m, (hb.cell (p := ⟨3, 0, none⟩) h.big).trans hm⟩, h.big⟩

theorem split_any (s : ByteArray) (w : World) (hs : s.size ≤ 1048576) (hM : ∃ m, w.cell? ⟨3, 0, none⟩ = some (.int .i64 m)) : Calls Tryd.prog 50 #[.string s, .string ⟨#[32]⟩] w (FreshG 9 (strV (pieces 32 s.data.toList)) w) := by
  obtain ⟨m, hm⟩ := hM
  have h1 : (1 : Nat) ≤ (⟨#[32]⟩ : ByteArray).size := by decide
  have hd := Lib.splitB_data ⟨#[32]⟩ 0 (Lib.countB s ⟨#[32]⟩) s
  have hv : (Lib.splitB ⟨#[32]⟩ 0 (Lib.countB s ⟨#[32]⟩) s).map Value.string = strV (pieces 32 s.data.toList) := by
    have e : pieces 32 s.data.toList = (Lib.splitB ⟨#[32]⟩ 0 (Lib.countB s ⟨#[32]⟩) s).map (·.data.toList) := by
      rw [hd, ← split_pieces]; rfl
    rw [e, strV, List.map_map]
    apply List.map_congr_left
    intro x _
    show Value.string x = Value.string (str x.data.toList)
    rw [← str_of]
  have hn : Lib.countB s ⟨#[32]⟩ + 1 = (strV (pieces 32 s.data.toList)).length := by
    rw [← hv, List.length_map, Lib.splitB_all ⟨#[32]⟩ h1 0 _ s rfl]
  refine (Tryd.strings_Split s ⟨#[32]⟩ m w (by omega) hm h1).mono ?_
  rintro e w' ⟨rfl, rfl⟩
  rw [hv, hn]
  refine ⟨_, _, rfl, ?_, (Below.refl _ _).alloc (Nat.le_refl _) _⟩
  have := OwnG.lit 9 w (strV (pieces 32 s.data.toList)) (by
    have := pieces_length 32 s.data.toList
    rw [← Lib.size_eq] at this
    rw [strV_length]; unfold maxLen; omega)
  exact this.mono (Nat.le_refl _) (by simp)

set_option maxRecDepth 100000 in
set_option maxHeartbeats 2000000 in
theorem implSplitWords_any (s : ByteArray) (w : World) (hs : s.size ≤ 1048576) (B : Nat) (hM : MaxEnv B w) (hB : B ≤ w.heap.size) : Calls Tryd.prog 17 #[.string s] w (FreshG 9 (strV (words s.data.toList)) w) := by
  have HC : Hid (∀ w', Below w.heap.size w w' → Calls Tryd.prog 50 #[.string s, .string ⟨#[32]⟩] w' (FreshG 9 (strV (pieces 32 s.data.toList)) w')) :=
    fun w' hb => split_any s w' hs (hM.below (hb.mono hB)).cell
  have HW : Hid (notEmpty (pieces 32 s.data.toList) = words s.data.toList) := rfl
  have hps : (pieces 32 s.data.toList).length ≤ 1048577 := by have := pieces_length 32 s.data.toList; rw [← Lib.size_eq] at this; omega
  generalize words s.data.toList = ws at *
  generalize pieces 32 s.data.toList = ps at *
  have HN : Hid ((strV ps).length = ps.length) := strV_length ps
  clear hs hM
  go_enter Tryd.func17, Tryd.ntmps17
  go_wp2_with fail
  have hO1 : OwnG 9 (w.alloc (.cells #[] 9)) w.heap.size (w.alloc (.cells #[] 9)).heap.size (some ⟨w.heap.size, 0, none⟩) 0 [] := OwnG.lit0 _ _
  have hb0 : Below w.heap.size w (w.alloc (.cells #[] 9)) := by (repeat (first | exact Below.refl _ _ | assumption | refine Below.setCell ?_ (by (try simp) <;> omega) _ | refine Below.alloc ?_ (by (try simp) <;> omega) _ | refine below_drewN_ ?_ | refine Below.drew ?_))
  generalize w.alloc (.cells #[] 9) = w0 at *
  refine (HC.out w0 hb0).mono ?_
  rintro e w1 ⟨A0, c0, rfl, hO0, hb1⟩
  have hO2 := hO1.below hb1 (Nat.le_refl _)
  have hb2 := hb0.trans (hb1.mono hb0.size)
  rw [HN.out]
  have HO0 := Lib.hid hO0
  have HZ0 := Lib.hid hb0.size
  have HZ1 := Lib.hid hb1.size
  have HO2 := Lib.hid hO2
  clear hO0 hO1 hO2 HC
  go_wp2
  go_loopw [3, 10, 5] (fun v i _ wr => ∃ (k : Nat) (A : Option Addr) (c : Nat), k ≤ ps.length ∧ i = .int .i64 k ∧ v = .slice A (notEmpty (ps.take k)).length c ∧
    ((notEmpty (ps.take k) = [] ∧ A = some ⟨w.heap.size, 0, none⟩ ∧ c = 0 ∧ OwnG 9 wr w.heap.size w0.heap.size A c []) ∨ OwnG 9 wr w1.heap.size wr.heap.size A c (strV (notEmpty (ps.take k)))) ∧ Below w1.heap.size w1 wr) (fun _ i _ _ => ps.length - (intOf i).toNat)
  case atStart => exact ⟨0, _, _, by omega, rfl, rfl, .inl ⟨rfl, rfl, rfl, HO2.out⟩, Below.refl _ _⟩
  case round =>
    obtain ⟨k, A, c, hk, rfl, rfl, hwon, hbr⟩ := hrel
    have HWon := Lib.hid hwon
    clear hwon
    have hsz := hbr.size
    have hne := notEmpty_le ps k
    by_cases hlt : k < ps.length
    · obtain ⟨b, o, rfl, hb, hcell⟩ := HO0.out.sl (by rw [HN.out]; omega)
      have e1 : wr.cell? ⟨b, o + k, none⟩ = some (.string (str (ps.getD k []))) := by
        rw [← strV_get ps k hlt, ← hcell k (by rw [HN.out]; exact hlt)]
        exact hbr.cell (p := ⟨b, o + k, none⟩) hb
      clear hcell
      cases g : (ps.getD k []).isEmpty
      · have HK := Lib.hid (notEmpty_keep hlt g)
        have hq : (str (ps.getD k [])).toList.isEmpty = false := by rw [Lib.toList_data]; exact g
        clear g
        have HV : Hid ((notEmpty (ps.take k)).length = (strV (notEmpty (ps.take k))).length) := (strV_length _).symm
        generalize notEmpty (ps.take k) = out at *
        generalize hpk : ps.getD k [] = p at *
        have HPK := Lib.hid hpk
        clear hpk
        obtain ⟨q, hqd⟩ : ∃ q, q = str p := ⟨_, rfl⟩
        rw [← hqd] at e1 hq
        have HQ := Lib.hid hqd
        clear hqd
        rcases HWon.out with ⟨rfl, rfl, rfl, hown⟩ | hown
        · go_wp2_with (at_builtin; refine wl_append_new rfl (.tmp 16) (.tmp 18) 27 9 rfl Tryd.underlying27 (.string ByteArray.empty) 16 infoT rfl (by omega) _ _ rfl rfl ?_)
          intro A' c' w' hown' hb'
          rw [HQ.out] at hown'
          have hown2 : OwnG 9 w' w1.heap.size w'.heap.size A' c' (strV (notEmpty (ps.take (k + 1)))) := by rw [HK.out]; exact hown'.mono hsz (Nat.le_refl _)
          have hbr' := hbr.trans (hb'.mono hsz)
          clear hown' hb'
          go_wp2
          go_roundw
          case rel => exact ⟨k + 1, A', c', by omega, by go_num, by rw [HK.out]; simp, .inr hown2, hbr'⟩
          case measure => simp [intOf]; omega
        · go_wp2_with (at_builtin; refine wl_appG1 rfl (.tmp 16) (.tmp 18) 27 9 rfl Tryd.underlying27 (.string ByteArray.empty) 16 infoT rfl (by omega) (by omega) A c (strV out) _ rfl out.length rfl hown HV.out rfl (by omega) hsz ?_)
          intro A' c' w' hown' hb'
          rw [HQ.out] at hown'
          have hown2 : OwnG 9 w' w1.heap.size w'.heap.size A' c' (strV (notEmpty (ps.take (k + 1)))) := by rw [HK.out, strV_append]; exact hown'
          have hbr' := hbr.trans hb'
          clear hown' hb'
          go_wp2
          go_roundw
          case rel => exact ⟨k + 1, A', c', by omega, by go_num, by rw [HK.out]; simp, .inr hown2, hbr'⟩
          case measure => simp [intOf]; omega
      · have HK := Lib.hid (notEmpty_skip hlt g)
        have hq : (str (ps.getD k [])).toList.isEmpty = true := by rw [Lib.toList_data]; exact g
        clear g
        generalize str (ps.getD k []) = q at *
        go_wp2
        go_roundw
        case rel => exact ⟨k + 1, A, c, by omega, by go_num, by rw [HK.out], by rw [HK.out]; exact HWon.out, hbr⟩
        case measure => simp [intOf]; omega
    · have HK : Hid (ps.take k = ps) := List.take_of_length_le (by omega)
      have HE : Hid (notEmpty (ps.take k) = ws) := by show _ = _; rw [HK.out]; exact HW.out
      go_wp2
      go_ret
      rcases HWon.out with ⟨h0, rfl, rfl, hown⟩ | hown
      · exact freshG_mk (by rw [HE.out, strV_length]) (by rw [← HE.out, h0]; exact hown) (by have := HZ1.out; omega) (hb2.trans (hbr.mono (by have := HZ0.out; have := HZ1.out; omega)))
      · exact freshG_mk (by rw [HE.out, strV_length]) (by rw [← HE.out]; exact hown.mono (by have := HZ0.out; have := HZ1.out; omega) (Nat.le_refl _)) (Nat.le_refl _) (hb2.trans (hbr.mono (by have := HZ0.out; have := HZ1.out; omega)))

end Go.Proofs.YtplioelpmfeabaaDoor
