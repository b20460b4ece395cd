/- Walks: the text of a signal, on both sides. -/
import Derived.Test.YtplioelpmfeabaaDoorQf
import Derived.Test.YtplioelpmfeabaaDoorQh
import Derived.Test.YtplioelpmfeabaaDoorVd
namespace Go.Proofs.YtplioelpmfeabaaDoor
open Go.RowKit
set_option linter.unusedVariables false
set_option linter.unusedSimpArgs false

theorem joinC_snoc {c : UInt8} : ∀ {ps : List (List UInt8)} (q : List UInt8), ps ≠ [] → joinC c (ps ++ [q]) = joinC c ps ++ c :: q
  | [], q, h => absurd rfl h
  | [p], q, _ => by rw [List.singleton_append, joinC_cons, joinC_one, joinC_one]
  | p :: p' :: r, q, _ => by
    have := joinC_snoc (c := c) (ps := p' :: r) q (by simp)
    rw [List.cons_append, List.cons_append, joinC_cons, joinC_cons, ← List.cons_append, this]
    simp
theorem joinC_le (c : UInt8) : ∀ (ps : List (List UInt8)), (∀ p ∈ ps, p.length ≤ 21) → (joinC c ps).length ≤ 22 * ps.length
  | [], _ => by rw [joinC_nil]; simp
  | [p], h => by rw [joinC_one]; have := h p (by simp); simp; omega
  | p :: q :: r, h => by
    have h1 := h p (by simp)
    have h2 := joinC_le c (q :: r) (fun x hx => h x (List.mem_cons_of_mem _ hx))
    rw [joinC_cons]
    simp only [List.length_append, List.length_cons] at h2 ⊢
    omega
theorem textN_le {xs : List Int} (h : ∀ x ∈ xs, I64 x) : (textN xs).length ≤ 22 * xs.length := by
  have := joinC_le 32 (xs.map Lib.itoa) (fun p hp => by
    obtain ⟨n, hn, rfl⟩ := List.mem_map.1 hp
    exact Lib.itoa_length_le n (h n hn).1 (h n hn).2)
  rwa [List.length_map] at this
theorem take_getD {xs : List Int} {k : Nat} (h : k < xs.length) : xs.take (k + 1) = xs.take k ++ [xs.getD k 0] := by
  rw [List.take_succ_eq_append_getElem h]
  simp [List.getD_eq_getElem?_getD, h]
theorem textN_first {xs : List Int} (h : 0 < xs.length) : textN (xs.take 1) = Lib.itoa (xs.getD 0 0) := by
  have := take_getD (xs := xs) (k := 0) h
  rw [Nat.zero_add] at this
  rw [this]
  exact joinC_one 32 _
theorem textN_step {xs : List Int} {k : Nat} (h0 : 0 < k) (h : k < xs.length) : textN (xs.take (k + 1)) = (textN (xs.take k) ++ [32]) ++ Lib.itoa (xs.getD k 0) := by
  rw [take_getD h]
  unfold textN
  rw [List.map_append]
  have hne : (xs.take k).map Lib.itoa ≠ [] := by
    intro e
    have e2 : ((xs.take k).map Lib.itoa).length = 0 := by rw [e]; rfl
    rw [List.length_map, List.length_take] at e2
    omega
  show joinC 32 ((xs.take k).map Lib.itoa ++ [Lib.itoa (xs.getD k 0)]) = _
  rw [joinC_snoc _ hne]
  simp

set_option maxRecDepth 100000 in
set_option maxHeartbeats 2000000 in
theorem l03Text_any (A : Option Addr) (c : Nat) (xs : List Int) (w : World) (h : Arg w A c xs) : Calls Tryd.prog 58 #[.slice A xs.length c] w (StrIs (textN xs) w) := by
  have HS := Lib.hid h.sl
  have hl := h.len
  have HI : Hid (∀ k, I64 (xs.getD k 0)) := fun k => by
    rcases Nat.lt_or_ge k xs.length with hk | hk
    · have := h.i64 xs[k] (List.getElem_mem hk)
      simpa [List.getD_eq_getElem?_getD, hk] using this
    · rw [List.getD_eq_getElem?_getD, List.getElem?_eq_none hk]; exact ⟨by decide, by decide⟩
  have HT : Hid (∀ k, k ≤ xs.length → (str (textN (xs.take k))).size ≤ 23068672) := fun k hk => by
    rw [str_size]
    have := textN_le (xs := xs.take k) (fun x hx => h.i64 x (List.mem_of_mem_take hx))
    rw [List.length_take] at this
    omega
  have H0 : Hid (textN (xs.take 0) = []) := by show _ = _; rw [List.take_zero]; rfl
  have HF : Hid (0 < xs.length → textN (xs.take 1) = Lib.itoa (xs.getD 0 0)) := textN_first
  have HST : Hid (∀ k, 0 < k → k < xs.length → textN (xs.take (k + 1)) = (textN (xs.take k) ++ [32]) ++ Lib.itoa (xs.getD k 0)) := fun k => textN_step
  have HE : Hid (textN (xs.take xs.length) = textN xs) := by show _ = _; rw [List.take_length]
  clear h
  obtain ⟨T, hT⟩ : ∃ T : Nat → List UInt8, T = fun k => textN (xs.take k) := ⟨_, rfl⟩
  obtain ⟨f, hf⟩ : ∃ f : Nat → Int, f = fun k => xs.getD k 0 := ⟨_, rfl⟩
  have HSl : Hid (0 < xs.length → ∃ b off, A = some ⟨b, off, none⟩ ∧ b < w.heap.size ∧ ∀ k, k < xs.length → w.cell? ⟨b, off + k, none⟩ = some (.int .i64 (f k))) := by rw [hf]; exact HS.out
  clear HS
  simp only [← congrFun hT _, ← congrFun hf _] at HI HT H0 HF HST HE
  clear hT hf
  generalize textN xs = r at *
  generalize xs.length = n at *
  go_enter Tryd.func58, Tryd.ntmps58
  go_wp2
  go_loopw [3, 4] (fun v i wr => ∃ k : Nat, k ≤ n ∧ i = .int .i64 k ∧ v = .string (str (T k)) ∧ Below w.heap.size w wr) (fun _ i _ => n - (intOf i).toNat)
  case atStart => exact ⟨0, by omega, rfl, by rw [H0.out]; rfl, Below.refl _ _⟩
  case round =>
    obtain ⟨k, hk, rfl, rfl, hbr⟩ := hrel
    by_cases hlt : k < n
    · obtain ⟨b, o, rfl, hb, hcell⟩ := HSl.out (by omega)
      have e1 : wr.cell? ⟨b, o + k, none⟩ = some (.int .i64 (f k)) := (hbr.cell (p := ⟨b, o + k, none⟩) hb).trans (hcell k hlt)
      clear hcell
      have hi := Lib.hid (HI.out k)
      have hq2 : (str (Lib.itoa (f k))).size ≤ 21 := by rw [str_size]; exact Lib.itoa_length_le _ hi.out.1 hi.out.2
      have hq1 := HT.out k hk
      by_cases h0 : k = 0
      · subst h0
        have HN : Hid (str (T 0) ++ str (Lib.itoa (f 0)) = str (T 1)) := by show _ = _; rw [H0.out, HF.out hlt, str_append]; rfl
        rw [Nat.add_zero] at e1
        generalize f 0 = x at *
        obtain ⟨p, hp⟩ : ∃ p, p = str (T 0) := ⟨_, rfl⟩
        rw [← hp] at hq1 HN ⊢
        clear hp
        go_wp2_with fail
        refine (l01Dec_any x wr hi.out).mono ?_
        rintro e w1 ⟨rfl, hb1⟩
        have hbr' := hbr.trans (hb1.mono hbr.size)
        clear hb1
        generalize str (Lib.itoa x) = q at *
        go_wp2
        go_roundw
        case rel => exact ⟨1, by omega, by go_num, by rw [HN.out], hbr'⟩
        case measure => simp [intOf]; omega
      · have hk0 : 0 < k := by omega
        have HN : Hid (str (T k) ++ str [32] ++ str (Lib.itoa (f k)) = str (T (k + 1))) := by show _ = _; rw [HST.out k hk0 hlt, str_append, str_append]
        generalize f k = x at *
        obtain ⟨p, hp⟩ : ∃ p, p = str (T k) := ⟨_, rfl⟩
        rw [← hp] at hq1 HN ⊢
        clear hp
        have hps : (p ++ str [32]).size ≤ 23068673 := by rw [ByteArray.size_append, str_size]; simp; omega
        go_wp2_with fail
        refine (l01Dec_any x wr hi.out).mono ?_
        rintro e w1 ⟨rfl, hb1⟩
        have hbr' := hbr.trans (hb1.mono hbr.size)
        clear hb1
        generalize str (Lib.itoa x) = q at *
        go_wp2
        go_roundw
        case rel => exact ⟨k + 1, by omega, by go_num, by rw [← HN.out]; rfl, hbr'⟩
        case measure => simp [intOf]; omega
    · have hkn : k = n := by omega
      subst hkn
      go_wp2
      go_ret
      exact ⟨ret_str (by rw [HE.out]), hbr⟩

/-- The text of a signal. -/
def textS (xs : List Int) : List UInt8 := if sigB xs = true then textN xs else []
theorem textS_yes {xs : List Int} (h : sigB xs = true) : textN xs = textS xs := (if_pos h).symm
theorem textS_no {xs : List Int} (h : sigB xs = false) : [] = textS xs := by unfold textS; rw [h]; rfl

theorem specSignalText_any (A : Option Addr) (c : Nat) (xs : List Int) (w : World) (h : Arg w A c xs) : Calls Tryd.prog 27 #[.slice A xs.length c] w (StrIs (textS xs) w) := by
  have HA := Lib.hid (l03Ok_any A c xs w _ h.sl (by have := h.len; omega))
  have HT := Lib.hid (l03Text_any A c xs w h)
  clear h
  cases hs : sigB xs
  · have HR := Lib.hid (textS_no hs)
    rw [hs] at HA
    clear hs HT
    generalize textS xs = r at *
    generalize xs.length = n at *
    go_enter Tryd.func27, Tryd.ntmps27
    go_wp2_with fail
    refine HA.out.mono ?_
    rintro e w' ⟨rfl, rfl⟩
    go_wp2
    go_ret
    exact ⟨ret_str (by rw [← HR.out]; rfl), Below.refl _ _⟩
  · have HR := Lib.hid (textS_yes hs)
    rw [hs] at HA
    clear hs
    generalize textS xs = r at *
    generalize textN xs = q at *
    generalize xs.length = n at *
    go_enter Tryd.func27, Tryd.ntmps27
    go_wp2_with fail
    refine HA.out.mono ?_
    rintro e w' ⟨rfl, rfl⟩
    go_wp2_with fail
    refine HT.out.mono ?_
    rintro e w1 ⟨rfl, hb⟩
    go_wp2
    go_ret
    exact ⟨ret_str (by rw [HR.out]), hb⟩

/-- The library's Join with a blank, of a slice of the call's own. -/
theorem join_any (A : Option Addr) (c n : Nat) (ls : List (List UInt8)) (w : World) (lo hi : Nat) (h : OwnG 9 w lo hi A c (strV ls)) (hh : hi ≤ w.heap.size) (hn : n = ls.length) (hl : n ≤ 1048577) (hj : (joinC 32 ls).length ≤ 140737488355328) :
    Calls Tryd.prog 81 #[.slice A n c, .string ⟨#[32]⟩] w (StrIs (joinC 32 ls) w) := by
  rcases Nat.eq_zero_or_pos n with h0 | hp
  · have hls : ls = [] := List.eq_nil_of_length_eq_zero (by omega)
    subst hls
    subst h0
    refine (Tryd.strings_Join_none A c ⟨#[32]⟩ w).mono ?_
    rintro e w' ⟨rfl, rfl⟩
    exact ⟨rfl, Below.refl _ _⟩
  · obtain ⟨g, rfl, _, hg⟩ := h.form (by rw [strV_length]; omega)
    have hm : (ls.map str).map (·.data.toList) = ls := by
      rw [List.map_map]
      conv => rhs; rw [← List.map_id ls]
      rfl
    have hc := h.cap
    rw [strV_length] at hc
    have := Tryd.strings_Join g 0 c (ls.map str) ⟨#[32]⟩ w (fun j x hx => by
      have hjl : j < ls.length := by
        have := (List.getElem?_eq_some_iff.1 hx).1
        simpa using this
      rw [Nat.zero_add, h.cell j (by rw [strV_length]; exact hjl), strV_get ls j hjl]
      rw [List.getElem?_map, List.getElem?_eq_getElem hjl] at hx
      have e := Option.some.inj hx
      simp only [List.getD_eq_getElem?_getD, List.getElem?_eq_getElem hjl, Option.getD_some]
      rw [← e]) (by omega) (by rw [List.length_map]; omega) (by rw [List.length_map]; omega) (by rw [hm]; exact hj)
    rw [hm, List.length_map, ← hn] at this
    exact this

end Go.Proofs.YtplioelpmfeabaaDoor
