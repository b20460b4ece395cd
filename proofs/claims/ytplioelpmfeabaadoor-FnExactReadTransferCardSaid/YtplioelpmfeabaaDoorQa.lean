/- Plain facts on decimal numerals, without any program: what the text of a number is, which texts are numbers. -/
import Derived.Test.YtplioelpmfeabaaDoorPa
import Derived.Lib.ItoaNum
import Derived.Lib.ItoaLen
import Derived.Lib.ParseIntBTie
import Derived.Lib.Strings
namespace Go.Proofs.YtplioelpmfeabaaDoor
open Go.RowKit
set_option linter.unusedVariables false
set_option linter.unusedSimpArgs false

def dig (c : UInt8) : Bool := decide (48 ≤ c.toNat) && decide (c.toNat ≤ 57)
theorem dig_yes {c : UInt8} (h : dig c = true) : 48 ≤ c.toNat ∧ c.toNat ≤ 57 := by simpa [dig] using h
theorem dig_mk {c : UInt8} (h : 48 ≤ c.toNat) (h' : c.toNat ≤ 57) : dig c = true := by simp [dig, h, h']
theorem dig_no {c : UInt8} (h : c.toNat < 48 ∨ 57 < c.toNat) : dig c = false := by
  unfold dig
  rcases h with h | h
  · rw [decide_eq_false (by omega)]; rfl
  · rw [decide_eq_false (p := c.toNat ≤ 57) (by omega)]; simp
/-- One digit as a byte. -/
theorem ofNat_toNat {d : Nat} (h : d < 10) : (UInt8.ofNat (48 + d)).toNat = 48 + d := by
  rw [UInt8.toNat_ofNat']; omega

/-- The digits of a number, none for 0. -/
def digs (u : Nat) : List UInt8 := if u = 0 then [] else Lib.decDigits u
theorem digs_zero : digs 0 = [] := rfl
theorem digs_pos {u : Nat} (h : u ≠ 0) : digs u = Lib.decDigits u := if_neg h
theorem digs_step {u : Nat} (h : u ≠ 0) : digs u = digs (u / 10) ++ [UInt8.ofNat (48 + u % 10)] := by
  rw [digs_pos h]
  by_cases h1 : u < 10
  · rw [Lib.decDigits_one h1, show u / 10 = 0 by omega, digs_zero, Nat.mod_eq_of_lt h1]; rfl
  · rw [Lib.decDigits, dif_neg h1, digs_pos (by omega)]
theorem itoa_zero : Lib.itoa 0 = [48] := by
  unfold Lib.itoa
  rw [if_neg (by omega), show (0 : Int).toNat = 0 from rfl, Lib.decDigits_one (by omega)]
  rfl
theorem itoa_neg' {n : Int} (h : n < 0) : Lib.itoa n = 45 :: digs n.natAbs := by
  unfold Lib.itoa
  rw [if_pos h, digs_pos (by omega)]
theorem itoa_pos' {n : Int} (h : 0 < n) : Lib.itoa n = digs n.natAbs := by
  unfold Lib.itoa
  rw [if_neg (by omega), digs_pos (by omega), show n.toNat = n.natAbs by omega]
theorem digs_len (u : Nat) (h : u < 18446744073709551616) : (digs u).length ≤ 20 := by
  unfold digs
  split
  · simp
  · rw [Lib.decDigits_length]; exact Lib.nDigits_le20 u h

/-- What digits spell. -/
def val (l : List UInt8) : Nat := l.foldl (fun a c => 10 * a + (c.toNat - 48)) 0
theorem val_snoc (l : List UInt8) (c : UInt8) : val (l ++ [c]) = 10 * val l + (c.toNat - 48) := by simp [val]
theorem dec_dig (u : Nat) : ∀ c ∈ Lib.decDigits u, dig c = true := by
  induction u using Nat.strongRecOn with
  | _ u ih =>
    by_cases h : u < 10
    · rw [Lib.decDigits_one h]
      intro c hc
      rw [List.mem_singleton] at hc
      subst hc
      exact dig_mk (by rw [ofNat_toNat h]; omega) (by rw [ofNat_toNat h]; omega)
    · rw [Lib.decDigits, dif_neg h]
      intro c hc
      simp only [List.mem_append, List.mem_singleton] at hc
      rcases hc with hc | hc
      · exact ih (u / 10) (by omega) c hc
      · subst hc
        exact dig_mk (by rw [ofNat_toNat (by omega)]; omega) (by rw [ofNat_toNat (by omega)]; omega)
theorem dec_val (u : Nat) : val (Lib.decDigits u) = u := by
  induction u using Nat.strongRecOn with
  | _ u ih =>
    by_cases h : u < 10
    · rw [Lib.decDigits_one h]
      simp only [val, List.foldl_cons, List.foldl_nil]
      rw [ofNat_toNat h]; omega
    · rw [Lib.decDigits, dif_neg h, val_snoc, ih (u / 10) (by omega), ofNat_toNat (by omega)]
      omega
theorem dec_ne (u : Nat) : Lib.decDigits u ≠ [] := by
  intro h
  have := Lib.decDigits_length u
  rw [h] at this
  have := Lib.nDigits_pos u
  simp at *
  omega
theorem dec_head (u : Nat) : (Lib.decDigits u).head? ≠ some 45 := by
  intro h
  have := dec_dig u 45 (List.mem_of_mem_head? h)
  exact absurd this (by decide)

/-- A text without a sign ahead. -/
def strip (l : List UInt8) : List UInt8 := if l.head? = some 45 then l.tail else l
theorem strip_neg (r : List UInt8) : strip (45 :: r) = r := rfl
theorem strip_other {l : List UInt8} (h : l.head? ≠ some 45) : strip l = l := if_neg h
theorem strip_le (l : List UInt8) : (strip l).length ≤ l.length := by
  unfold strip
  split
  · rw [List.length_tail]; omega
  · omega
theorem strip_lt {l : List UInt8} : (strip l).length < l.length ↔ l.head? = some 45 := by
  unfold strip
  constructor
  · intro h
    split at h
    · assumption
    · omega
  · intro h
    rw [if_pos h, List.length_tail]
    cases l with
    | nil => cases h
    | cons c r => simp
theorem trim_strip (l : List UInt8) : Lib.trimPrefix l [45] = strip l := by
  unfold Lib.trimPrefix Lib.hasPrefix strip
  cases l with
  | nil => rfl
  | cons c r =>
    by_cases h : c = 45
    · subst h; simp
    · simp [h, Ne.symm h]
theorem itoa_strip (n : Int) : strip (Lib.itoa n) = Lib.decDigits n.natAbs := by
  unfold Lib.itoa
  split
  · rfl
  · rw [show n.toNat = n.natAbs by omega]
    exact strip_other (dec_head _)
theorem itoa_neg_iff (n : Int) : (Lib.itoa n).head? = some 45 ↔ n < 0 := by
  unfold Lib.itoa
  split
  · simp; assumption
  · constructor
    · intro h; exact absurd h (dec_head _)
    · intro h; omega

/-- The number that a text without its sign spells. -/
def numV (l : List UInt8) : Int := if (strip l).length < l.length then -(val (strip l) : Int) else val (strip l)
theorem itoa_numV (n : Int) : numV (Lib.itoa n) = n := by
  unfold numV
  rw [itoa_strip, dec_val]
  have h := strip_lt (l := Lib.itoa n)
  rw [itoa_strip, itoa_neg_iff] at h
  by_cases hn : n < 0
  · rw [if_pos (h.2 hn)]; omega
  · rw [if_neg (fun e => hn (h.1 e))]; omega
theorem itoa_inj {n m : Int} (h : Lib.itoa n = Lib.itoa m) : n = m := by
  rw [← itoa_numV n, h, itoa_numV]

/-- The number that a text is, and whether it is one. -/
def readN (l : List UInt8) : Int × Bool :=
  if (strip l).length < 1 ∨ 18 < (strip l).length then (0, false)
  else if (strip l).all dig = false then (0, false)
  else if Lib.itoa (numV l) = l then (numV l, true) else (0, false)
theorem readN_len {l : List UInt8} (h : (strip l).length < 1 ∨ 18 < (strip l).length) : readN l = (0, false) := if_pos h
theorem readN_dig {l : List UInt8} (h : (strip l).all dig = false) : readN l = (0, false) := by
  unfold readN
  by_cases h1 : (strip l).length < 1 ∨ 18 < (strip l).length
  · rw [if_pos h1]
  · rw [if_neg h1, if_pos h]
theorem readN_ok {l : List UInt8} (h1 : 1 ≤ (strip l).length) (h2 : (strip l).length ≤ 18) (h3 : (strip l).all dig = true) (h4 : Lib.itoa (numV l) = l) : readN l = (numV l, true) := by
  unfold readN
  rw [if_neg (by omega), if_neg (by simp [h3]), if_pos h4]
theorem readN_off {l : List UInt8} (h4 : Lib.itoa (numV l) ≠ l) : readN l = (0, false) := by
  unfold readN
  by_cases h1 : (strip l).length < 1 ∨ 18 < (strip l).length
  · rw [if_pos h1]
  · rw [if_neg h1]
    by_cases h2 : (strip l).all dig = false
    · rw [if_pos h2]
    · rw [if_neg h2, if_neg h4]
theorem readN_yes {l : List UInt8} {n : Int} (h : Lib.itoa n = l) (hl : (strip l).length ≤ 18) : readN l = (n, true) := by
  subst h
  rw [readN_ok, itoa_numV]
  · rw [itoa_strip, Lib.decDigits_length]; exact Lib.nDigits_pos _
  · exact hl
  · rw [itoa_strip, List.all_eq_true]; exact dec_dig _
  · rw [itoa_numV]
theorem readN_inv {l : List UInt8} {n : Int} (h : readN l = (n, true)) : Lib.itoa n = l ∧ (strip l).length ≤ 18 := by
  unfold readN at h
  split at h
  · cases h
  · split at h
    · cases h
    · split at h
      · rename_i h1 h2 h3
        injection h with h _
        subst h
        exact ⟨h3, by omega⟩
      · cases h
theorem readN_no {l : List UInt8} (h : ∀ n, readN l ≠ (n, true)) : readN l = (0, false) := by
  unfold readN at h ⊢
  split
  · rfl
  · split
    · rfl
    · split
      · rename_i h1 h2 h3
        exact absurd (by rw [if_neg h1, if_neg h2, if_pos h3]) (h (numV l))
      · rfl
theorem readN_pair (l : List UInt8) : (∃ n, readN l = (n, true)) ∨ readN l = (0, false) := by
  by_cases h : ∃ n, readN l = (n, true)
  · exact .inl h
  · exact .inr (readN_no fun n e => h ⟨n, e⟩)

theorem pow10_le {k : Nat} (h : k ≤ 18) : 10 ^ k ≤ 1000000000000000000 := by
  have : (10 : Nat) ^ k ≤ 10 ^ 18 := Nat.pow_le_pow_right (by omega) h
  simpa using this
theorem val_acc : ∀ (l : List UInt8) (a k : Nat), (∀ c ∈ l, dig c = true) → a < 10 ^ k → l.foldl (fun a c => 10 * a + (c.toNat - 48)) a < 10 ^ (k + l.length)
  | [], a, k, _, ha => ha
  | c :: r, a, k, h, ha => by
    have h2 := dig_yes (h c (by simp))
    rw [List.length_cons, show k + (r.length + 1) = k + 1 + r.length by omega]
    refine val_acc r _ (k + 1) (fun d hd => h d (List.mem_cons_of_mem _ hd)) ?_
    rw [Nat.pow_succ]
    show 10 * a + (c.toNat - 48) < _
    omega
theorem val_lt {l : List UInt8} (h : ∀ c ∈ l, dig c = true) : val l < 10 ^ l.length := by
  have := val_acc l 0 0 h (by decide)
  rwa [Nat.zero_add] at this
theorem parse_digits : ∀ (l : List UInt8) (acc k : Nat), (∀ c ∈ l, dig c = true) → acc < 10 ^ k → k + l.length ≤ 18 → Lib.parseUint10 acc l = .ok (l.foldl (fun a c => 10 * a + (c.toNat - 48)) acc)
  | [], acc, k, _, _, _ => rfl
  | c :: r, acc, k, h, ha, hk => by
    have hd := dig_yes (h c (by simp))
    rw [List.length_cons] at hk
    have hp := pow10_le (k := k) (by omega)
    have hp1 := pow10_le (k := k + 1) (by omega)
    have e : acc * 10 + (c.toNat - 48) = 10 * acc + (c.toNat - 48) := by omega
    have hn : 10 * acc + (c.toNat - 48) < 10 ^ (k + 1) := by rw [Nat.pow_succ]; omega
    have hq : acc < 1844674407370955162 := by
      have : (10 : Nat) ^ k ≤ 10 ^ 17 := Nat.pow_le_pow_right (by omega) (by omega)
      have e17 : (10 : Nat) ^ 17 = 100000000000000000 := by decide
      omega
    simp only [Lib.parseUint10]
    rw [if_pos hd, if_neg (by omega), if_neg (by omega), e, parse_digits r _ (k + 1) (fun d hd => h d (List.mem_cons_of_mem _ hd)) hn (by omega)]
    rfl
theorem parse_dec {u : Nat} (h : (Lib.decDigits u).length ≤ 18) : Lib.parseMag (Lib.decDigits u) = .ok u := by
  unfold Lib.parseMag
  rw [if_neg (dec_ne u), parse_digits _ 0 0 (dec_dig u) (by decide) (by omega)]
  exact congrArg _ (dec_val u)
theorem dec_lt {u : Nat} (h : (Lib.decDigits u).length ≤ 18) : u < 1000000000000000000 := by
  have h1 := val_lt (dec_dig u)
  rw [dec_val] at h1
  have := pow10_le h
  omega
/-- The text of a number of at most 18 digits is parsed as that number. -/
theorem parse_itoa {l : List UInt8} {n : Int} (h : Lib.itoa n = l) (hl : (strip l).length ≤ 18) : Lib.parseIntB 64 l = .ok n := by
  rw [Lib.parseIntB_64]
  subst h
  rw [itoa_strip] at hl
  have hlt := dec_lt hl
  by_cases hn : n < 0
  · unfold Lib.itoa
    rw [if_pos hn, Lib.atoiAll_minus, parse_dec hl]
    simp only [Lib.signed]
    rw [if_neg (by omega)]
    congr 1
    omega
  · have e : Lib.itoa n = Lib.decDigits n.natAbs := by unfold Lib.itoa; rw [if_neg hn, show n.toNat = n.natAbs by omega]
    rw [e]
    rcases hd : Lib.decDigits n.natAbs with _ | ⟨c, r⟩
    · exact absurd hd (dec_ne _)
    · have hc := dig_yes (dec_dig n.natAbs c (by rw [hd]; simp))
      rw [Lib.atoiAll_plain c r (by omega) (by omega), ← hd, parse_dec hl]
      simp only [Lib.signless]
      rw [if_neg (by omega)]
      congr 1
      omega
/-- How the program comes to it: the parse answers a number. -/
theorem read_parse {l : List UInt8} {n : Int} (h : Lib.parseIntB 64 l = .ok n) : readN l = if Lib.itoa n = l ∧ (strip l).length ≤ 18 then (n, true) else (0, false) := by
  split
  · rename_i hc
    exact readN_yes hc.1 hc.2
  · rename_i hc
    refine readN_no fun m hm => hc ?_
    obtain ⟨h1, h2⟩ := readN_inv hm
    have := (parse_itoa h1 h2).symm.trans h
    injection this with this
    subst this
    exact ⟨h1, h2⟩
theorem read_fail {l : List UInt8} (h : ∀ n, Lib.parseIntB 64 l ≠ .ok n) : readN l = (0, false) :=
  readN_no fun m hm => by
    obtain ⟨h1, h2⟩ := readN_inv hm
    exact h m (parse_itoa h1 h2)
/-- What is read fits into 18 digits. -/
theorem readN_bound {l : List UInt8} {n : Int} {b : Bool} (h : readN l = (n, b)) : -1000000000000000000 < n ∧ n < 1000000000000000000 := by
  cases b
  · rcases readN_pair l with ⟨m, hm⟩ | hm
    · rw [hm] at h; cases h
    · rw [hm] at h; injection h with h _; subst h; exact ⟨by decide, by decide⟩
  · obtain ⟨h1, h2⟩ := readN_inv h
    subst h1
    rw [itoa_strip] at h2
    have := dec_lt h2
    omega

end Go.Proofs.YtplioelpmfeabaaDoor
