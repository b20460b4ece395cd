/- Plain facts on reading transfer functions. -/
import Derived.Test.YtplioelpmfeabaaDoorUb
import Derived.Test.YtplioelpmfeabaaDoorQm
namespace Go.Proofs.YtplioelpmfeabaaDoor
open Go.RowKit
set_option linter.unusedVariables false
set_option linter.unusedSimpArgs false

/-- The words of a transfer function's text. -/
def denW : List UInt8 := [100, 101, 110]
def trP (xs ys : List Int) : List (List UInt8) := numC :: (xs.map Lib.itoa ++ denW :: ys.map Lib.itoa)
theorem joinC_flat (p : List UInt8) : ∀ ps : List (List UInt8), joinC 32 (p :: ps) = p ++ (ps.map (32 :: ·)).flatten
  | [] => by rw [joinC_one]; simp
  | q :: r => by
    have ih := joinC_flat q r
    rw [joinC_cons, ih]
    simp
theorem trP_join (xs ys : List Int) : joinC 32 (trP xs ys) = trT xs ys := by
  unfold trP
  rw [joinC_flat]
  unfold trT spaced
  simp only [List.map_append, List.map_cons, List.map_map, List.flatten_append, List.flatten_cons, List.append_assoc]
  rfl
theorem itoa_den (n : Int) : Lib.itoa n ≠ denW := fun e => by
  have h := itoa_free n (c := 100) (by decide) (by decide)
  rw [e] at h
  exact h (by decide)
theorem trP_free (xs ys : List Int) : ∀ p ∈ trP xs ys, (32 : UInt8) ∉ p := by
  intro p hp
  unfold trP at hp
  simp only [List.mem_cons, List.mem_append] at hp
  rcases hp with rfl | hp | rfl | hp
  · decide
  · exact texts_free xs p hp
  · decide
  · exact texts_free ys p hp
theorem trP_pieces (xs ys : List Int) : pieces 32 (trT xs ys) = trP xs ys := by
  rw [← trP_join]
  exact pieces_join (by simp [trP]) (trP_free xs ys)
theorem trP_words (xs ys : List Int) : words (trT xs ys) = trP xs ys := by
  rw [words_all, trP_pieces]
  rw [trP_pieces]
  intro p hp
  unfold trP at hp
  simp only [List.mem_cons, List.mem_append, List.mem_map] at hp
  rcases hp with rfl | ⟨n, _, rfl⟩ | rfl | ⟨n, _, rfl⟩
  · decide
  · exact itoa_ne n
  · decide
  · exact itoa_ne n
theorem trP_length (xs ys : List Int) : (trP xs ys).length = xs.length + ys.length + 2 := by simp [trP]; omega
theorem map_getD (xs : List Int) (j : Nat) (h : j < xs.length) (d : List UInt8) : (xs.map Lib.itoa).getD j d = Lib.itoa (xs.getD j 0) := by
  simp [List.getD_eq_getElem?_getD, h]
theorem getD_left {a b : List (List UInt8)} {j : Nat} (h : j < a.length) (d : List UInt8) : (a ++ b).getD j d = a.getD j d := by
  rw [List.getD_eq_getElem?_getD, List.getElem?_append_left h, ← List.getD_eq_getElem?_getD]
theorem getD_right {a b : List (List UInt8)} {j : Nat} (h : a.length ≤ j) (d : List UInt8) : (a ++ b).getD j d = b.getD (j - a.length) d := by
  rw [List.getD_eq_getElem?_getD, List.getElem?_append_right h, ← List.getD_eq_getElem?_getD]
theorem trP_0 (xs ys : List Int) : (trP xs ys).getD 0 [] = numC := rfl
theorem trP_num (xs ys : List Int) {j : Nat} (h : j < xs.length) : (trP xs ys).getD (j + 1) [] = Lib.itoa (xs.getD j 0) := by
  unfold trP
  rw [List.getD_cons_succ, getD_left (by simpa using h)]
  exact map_getD xs j h []
theorem trP_den (xs ys : List Int) : (trP xs ys).getD (xs.length + 1) [] = denW := by
  unfold trP
  rw [List.getD_cons_succ, getD_right (by simp)]
  simp
theorem trP_two (xs ys : List Int) {j : Nat} (h : j < ys.length) : (trP xs ys).getD (xs.length + 2 + j) [] = Lib.itoa (ys.getD j 0) := by
  unfold trP
  rw [show xs.length + 2 + j = (xs.length + 1 + j) + 1 by omega, List.getD_cons_succ, getD_right (by simp; omega)]
  rw [List.length_map, show xs.length + 1 + j - xs.length = j + 1 by omega, List.getD_cons_succ]
  exact map_getD ys j h []
/-- The word "den" stands at one place. -/
theorem trP_at (xs ys : List Int) {k : Nat} (hk : k < xs.length + ys.length + 2) : (trP xs ys).getD k [] = denW ↔ k = xs.length + 1 := by
  constructor
  · intro h
    rcases Nat.lt_trichotomy k (xs.length + 1) with h1 | h1 | h1
    · cases k with
      | zero => rw [trP_0] at h; exact absurd h (by decide)
      | succ j => rw [trP_num xs ys (by omega)] at h; exact absurd h (itoa_den _)
    · exact h1
    · have := trP_two xs ys (j := k - (xs.length + 2)) (by omega)
      rw [show xs.length + 2 + (k - (xs.length + 2)) = k by omega, h] at this
      exact absurd this.symm (itoa_den _)
  · rintro rfl
    exact trP_den xs ys

/-- The text l is the transfer function's. -/
def Tr (l : List UInt8) (xs ys : List Int) : Prop := trB xs ys = true ∧ trT xs ys = l
theorem Tr.bound {l : List UInt8} {xs ys : List Int} (h : Tr l xs ys) (k : Nat) : (-2147483648 ≤ xs.getD k 0 ∧ xs.getD k 0 ≤ 2147483647) ∧ (-2147483648 ≤ ys.getD k 0 ∧ ys.getD k 0 ≤ 2147483647) := by
  obtain ⟨h1, h2, -⟩ := trB_inv h.1
  exact ⟨pol_smp h1 k, pol_smp h2 k⟩
theorem Tr.len {l : List UInt8} {xs ys : List Int} (h : Tr l xs ys) : xs.length ≤ 65 ∧ ys.length ≤ 65 := by
  obtain ⟨h1, h2, -⟩ := trB_inv h.1
  exact ⟨(pol_len h1).2, (pol_len h2).2⟩
theorem Tr.pieces {l : List UInt8} {xs ys : List Int} (h : Tr l xs ys) : pieces 32 l = trP xs ys := by rw [← h.2, trP_pieces]
theorem Tr.words {l : List UInt8} {xs ys : List Int} (h : Tr l xs ys) : words l = trP xs ys := by rw [← h.2, trP_words]
theorem Tr.ne {l : List UInt8} {xs ys : List Int} (h : Tr l xs ys) : l ≠ [] := by
  intro e
  have h2 := h.2
  rw [e] at h2
  simp [trT, numC] at h2
theorem Tr.text {l : List UInt8} {xs ys : List Int} (h : Tr l xs ys) : transT xs ys = l := by rw [← transT_yes h.1, h.2]
theorem tr_of {l : List UInt8} {xs ys : List Int} (h : transT xs ys = l) (hne : l ≠ []) : Tr l xs ys := by
  cases hb : trB xs ys
  · rw [← transT_no hb] at h; exact absurd h.symm hne
  · exact ⟨hb, by rw [transT_yes hb]; exact h⟩
theorem rdAll_itoas {xs : List Int} (h : ∀ x ∈ xs, -1000000000000000000 < x ∧ x < 1000000000000000000) : rdAll (xs.map Lib.itoa) = (xs, true) := by
  have h1 : okAll (xs.map Lib.itoa) = true := okAll_yes fun w hw => by
    obtain ⟨n, hn, rfl⟩ := List.mem_map.1 hw
    rw [readN_itoa (h n hn).1 (h n hn).2]
  rw [rdAll_yes h1]
  congr 1
  unfold numsOf
  rw [List.map_map]
  conv => rhs; rw [← List.map_id xs]
  apply List.map_congr_left
  intro n hn
  show (readN (Lib.itoa n)).1 = n
  rw [readN_itoa (h n hn).1 (h n hn).2]
theorem mem_bound {xs : List Int} (h : ∀ k, -2147483648 ≤ xs.getD k 0 ∧ xs.getD k 0 ≤ 2147483647) : ∀ x ∈ xs, -1000000000000000000 < x ∧ x < 1000000000000000000 := by
  intro x hx
  obtain ⟨j, hj, rfl⟩ := List.getElem_of_mem hx
  have := h j
  simp [List.getD_eq_getElem?_getD, hj] at this
  omega
/-- The program's two readings. -/
theorem Tr.read1 {l : List UInt8} {xs ys : List Int} (h : Tr l xs ys) : rdAll (((_root_.Go.Proofs.YtplioelpmfeabaaDoor.words l).take (xs.length + 1)).drop 1) = (xs, true) := by
  rw [h.words]
  have e : ((trP xs ys).take (xs.length + 1)).drop 1 = xs.map Lib.itoa := by
    unfold trP
    rw [List.take_succ_cons, List.drop_succ_cons, List.drop_zero, List.take_left' (by simp)]
  rw [e]
  exact rdAll_itoas (mem_bound fun k => (h.bound k).1)
theorem Tr.read2 {l : List UInt8} {xs ys : List Int} (h : Tr l xs ys) : rdAll ((_root_.Go.Proofs.YtplioelpmfeabaaDoor.words l).drop (xs.length + 1 + 1)) = (ys, true) := by
  rw [h.words]
  have e : (trP xs ys).drop (xs.length + 1 + 1) = ys.map Lib.itoa := by
    unfold trP
    rw [List.drop_succ_cons, List.drop_append]
    rw [List.drop_of_length_le (by simp), List.length_map, show xs.length + 1 - xs.length = 1 by omega]
    rfl
  rw [e]
  exact rdAll_itoas (mem_bound fun k => (h.bound k).2)
theorem Tr.unique {l : List UInt8} {xs ys xs' ys' : List Int} (h : Tr l xs ys) (h' : Tr l xs' ys') : xs = xs' ∧ ys = ys' := by
  have hp : trP xs ys = trP xs' ys' := h.pieces.symm.trans h'.pieces
  have hl : xs.length = xs'.length := by
    have h1 := trP_den xs ys
    rw [hp] at h1
    have h2 : xs.length + 1 < xs'.length + ys'.length + 2 := by
      have := congrArg List.length hp
      rw [trP_length, trP_length] at this
      omega
    have := (trP_at xs' ys' h2).1 h1
    omega
  have a := h.read1
  rw [hl, h'.read1] at a
  have b := h.read2
  rw [hl, h'.read2] at b
  exact ⟨(Prod.mk.inj a).1.symm, (Prod.mk.inj b).1.symm⟩
open Classical in
/-- Which transfer function a text is. -/
noncomputable def trRead (l : List UInt8) : (List Int × List Int) × Bool :=
  if h : ∃ p : List Int × List Int, Tr l p.1 p.2 then (h.choose, true) else (([], []), false)
theorem trRead_yes {l : List UInt8} {xs ys : List Int} (h : Tr l xs ys) : trRead l = ((xs, ys), true) := by
  have hx : ∃ p : List Int × List Int, Tr l p.1 p.2 := ⟨(xs, ys), h⟩
  unfold trRead
  rw [dif_pos hx]
  obtain ⟨h1, h2⟩ := hx.choose_spec.unique h
  exact congrArg (·, true) (Prod.ext h1 h2)
theorem trRead_no {l : List UInt8} (h : ∀ xs ys, ¬ Tr l xs ys) : trRead l = (([], []), false) := by
  unfold trRead
  rw [dif_neg]
  rintro ⟨p, hp⟩
  exact h _ _ hp
/-- The compare at the end. -/
theorem trRead_end {l : List UInt8} {us vs : List Int} (H : ∀ xs ys, Tr l xs ys → us = xs ∧ vs = ys) (hne : ¬ transT us vs = l) : trRead l = (([], []), false) := trRead_no fun xs ys h => by
  obtain ⟨rfl, rfl⟩ := H xs ys h
  exact hne h.text

/-- What the reference knows at the piece k. -/
def SpInv (l : List UInt8) (k : Nat) (b : Bool) (us vs : List Int) : Prop :=
  ∀ xs ys, Tr l xs ys → b = decide (xs.length + 1 < k) ∧ us = xs.take (k - 1) ∧ vs = ys.take (k - (xs.length + 2))
theorem SpInv.start (l : List UInt8) : SpInv l 1 false [] [] := fun xs ys h => ⟨by simp, by simp, by simp⟩
theorem SpInv.den {l : List UInt8} {k : Nat} {us vs : List Int} (h : SpInv l k false us vs) (hk : k < (pieces 32 l).length) (he : (pieces 32 l).getD k [] = denW) : SpInv l (k + 1) true us vs := fun xs ys ht => by
  obtain ⟨h1, h2, h3⟩ := h xs ys ht
  rw [ht.pieces] at he hk
  rw [trP_length] at hk
  obtain rfl := (trP_at xs ys hk).1 he
  refine ⟨by simp, ?_, ?_⟩
  · rw [h2, List.take_of_length_le (by omega), List.take_of_length_le (by omega)]
  · rw [h3, show xs.length + 1 - (xs.length + 2) = 0 by omega, show xs.length + 1 + 1 - (xs.length + 2) = 0 by omega]
theorem SpInv.one {l : List UInt8} {k : Nat} {us vs : List Int} {m : Int} (h : SpInv l k false us vs) (hk0 : 1 ≤ k) (hk : k < (pieces 32 l).length) (he : readN ((pieces 32 l).getD k []) = (m, true)) : SpInv l (k + 1) false (us ++ [m]) vs := fun xs ys ht => by
  obtain ⟨h1, h2, h3⟩ := h xs ys ht
  rw [ht.pieces] at he hk
  rw [trP_length] at hk
  have hk1 : k ≠ xs.length + 1 := fun e => by
    rw [e, trP_den] at he
    exact absurd he (by rw [readN_dig (by decide)]; intro e; injection e with _ e; cases e)
  have hk2 : k ≤ xs.length := by simp at h1; omega
  obtain ⟨j, rfl⟩ : ∃ j, k = j + 1 := ⟨k - 1, by omega⟩
  have hb := (ht.bound j).1
  rw [trP_num xs ys (by omega), readN_itoa (by omega) (by omega)] at he
  injection he with he _
  refine ⟨by simp; omega, ?_, ?_⟩
  · rw [h2, ← he, show j + 1 + 1 - 1 = j + 1 by omega, show j + 1 - 1 = j by omega, take_getD (by omega)]
  · rw [h3, show j + 1 - (xs.length + 2) = 0 by omega, show j + 1 + 1 - (xs.length + 2) = 0 by omega]
theorem SpInv.two {l : List UInt8} {k : Nat} {us vs : List Int} {m : Int} (h : SpInv l k true us vs) (hk : k < (pieces 32 l).length) (he : readN ((pieces 32 l).getD k []) = (m, true)) : SpInv l (k + 1) true us (vs ++ [m]) := fun xs ys ht => by
  obtain ⟨h1, h2, h3⟩ := h xs ys ht
  rw [ht.pieces] at he hk
  rw [trP_length] at hk
  have hk2 : xs.length + 1 < k := by simpa using h1
  obtain ⟨j, rfl⟩ : ∃ j, k = xs.length + 2 + j := ⟨k - (xs.length + 2), by omega⟩
  have hb := (ht.bound j).2
  rw [trP_two xs ys (by omega), readN_itoa (by omega) (by omega)] at he
  injection he with he _
  refine ⟨by simp; omega, ?_, ?_⟩
  · rw [h2, List.take_of_length_le (by omega), List.take_of_length_le (by omega)]
  · rw [h3, ← he, show xs.length + 2 + j - (xs.length + 2) = j by omega, show xs.length + 2 + j + 1 - (xs.length + 2) = j + 1 by omega, take_getD (by omega)]
theorem SpInv.bad {l : List UInt8} {k : Nat} {b : Bool} {us vs : List Int} {m : Int} (h : SpInv l k b us vs) (hk0 : 1 ≤ k) (hk : k < (pieces 32 l).length) (hd : (pieces 32 l).getD k [] = denW → b = true) (he : readN ((pieces 32 l).getD k []) = (m, false)) : trRead l = (([], []), false) := trRead_no fun xs ys ht => by
  obtain ⟨h1, h2, h3⟩ := h xs ys ht
  rw [ht.pieces] at he hk hd
  rw [trP_length] at hk
  rcases Nat.lt_trichotomy k (xs.length + 1) with h4 | h4 | h4
  · obtain ⟨j, rfl⟩ : ∃ j, k = j + 1 := ⟨k - 1, by omega⟩
    have hb := (ht.bound j).1
    rw [trP_num xs ys (by omega), readN_itoa (by omega) (by omega)] at he
    injection he with _ he
    cases he
  · rw [h4, trP_den] at hd
    rw [hd rfl, h4] at h1
    simp at h1
  · obtain ⟨j, rfl⟩ : ∃ j, k = xs.length + 2 + j := ⟨k - (xs.length + 2), by omega⟩
    have hb := (ht.bound j).2
    rw [trP_two xs ys (by omega), readN_itoa (by omega) (by omega)] at he
    injection he with _ he
    cases he
theorem SpInv.long {l : List UInt8} (hk : 132 < (pieces 32 l).length) : trRead l = (([], []), false) := trRead_no fun xs ys ht => by
  rw [ht.pieces, trP_length] at hk
  have := ht.len
  omega
theorem SpInv.fin {l : List UInt8} {b : Bool} {us vs : List Int} {k : Nat} (h : SpInv l k b us vs) (hk : k = (pieces 32 l).length ∨ (pieces 32 l).length ≤ k) : ∀ xs ys, Tr l xs ys → us = xs ∧ vs = ys := fun xs ys ht => by
  obtain ⟨h1, h2, h3⟩ := h xs ys ht
  have h4 : (pieces 32 l).length ≤ k := by omega
  rw [ht.pieces, trP_length] at h4
  rw [h2, h3, List.take_of_length_le (by omega), List.take_of_length_le (by omega)]
  exact ⟨rfl, rfl⟩

/-- What the program knows at the word k. -/
def ImInv (l : List UInt8) (k : Nat) (dv : Int) : Prop := ∀ xs ys, Tr l xs ys → dv = if xs.length + 1 < k then ((xs.length + 1 : Nat) : Int) else -1
theorem ImInv.start (l : List UInt8) : ImInv l 0 (-1) := fun xs ys h => by simp
theorem ImInv.hit {l : List UInt8} {k : Nat} {dv : Int} (h : ImInv l k dv) (hk : k < (words l).length) (he : (words l).getD k [] = denW) : ImInv l (k + 1) k := fun xs ys ht => by
  rw [ht.words] at he hk
  rw [trP_length] at hk
  obtain rfl := (trP_at xs ys hk).1 he
  rw [if_pos (by omega)]
theorem ImInv.miss {l : List UInt8} {k : Nat} {dv : Int} (h : ImInv l k dv) (hk : k < (words l).length) (he : (words l).getD k [] ≠ denW) : ImInv l (k + 1) dv := fun xs ys ht => by
  have h1 := h xs ys ht
  rw [ht.words] at he hk
  rw [trP_length] at hk
  have h2 : k ≠ xs.length + 1 := fun e => he ((trP_at xs ys hk).2 e)
  rw [h1]
  by_cases h3 : xs.length + 1 < k
  · rw [if_pos h3, if_pos (by omega)]
  · rw [if_neg h3, if_neg (by omega)]
theorem ImInv.none {l : List UInt8} {dv : Int} (h : ImInv l (words l).length dv) (hd : dv < 1) : trRead l = (([], []), false) := trRead_no fun xs ys ht => by
  have h1 := h xs ys ht
  rw [ht.words, trP_length, if_pos (by omega)] at h1
  omega
theorem ImInv.fin {l : List UInt8} {i : Nat} (h : ImInv l (words l).length i) : ∀ xs ys, Tr l xs ys → rdAll (((words l).take i).drop 1) = (xs, true) ∧ rdAll ((words l).drop (i + 1)) = (ys, true) := fun xs ys ht => by
  have h1 := h xs ys ht
  rw [ht.words, trP_length, if_pos (by omega)] at h1
  obtain rfl : i = xs.length + 1 := by omega
  exact ⟨ht.read1, ht.read2⟩

end Go.Proofs.YtplioelpmfeabaaDoor
