/- Plain facts on texts cut at a byte and joined by it, without any program. -/
import Derived.Test.YtplioelpmfeabaaDoorQa
import Derived.Lib.SplitLaws
import Derived.Lib.Join
namespace Go.Proofs.YtplioelpmfeabaaDoor
open Go.RowKit
set_option linter.unusedVariables false
set_option linter.unusedSimpArgs false

/-- The rest of a text, cut at c, where cur is what was read since the last c. -/
def cutAt (c : UInt8) (cur : List UInt8) : List UInt8 → List (List UInt8)
  | [] => [cur]
  | x :: r => if x = c then cur :: cutAt c [] r else cutAt c (cur ++ [x]) r
/-- The parts of a text between the bytes c. -/
def pieces (c : UInt8) (l : List UInt8) : List (List UInt8) := cutAt c [] l
theorem cutAt_ne (c : UInt8) : ∀ (l cur : List UInt8), cutAt c cur l ≠ []
  | [], cur => by simp [cutAt]
  | x :: r, cur => by
    unfold cutAt
    split
    · simp
    · exact cutAt_ne c r _
theorem cutAt_length (c : UInt8) : ∀ (l cur : List UInt8), (cutAt c cur l).length ≤ l.length + 1
  | [], cur => by simp [cutAt]
  | x :: r, cur => by
    unfold cutAt
    split
    · have := cutAt_length c r []
      simp only [List.length_cons]; omega
    · have := cutAt_length c r (cur ++ [x])
      simp only [List.length_cons]; omega
theorem pieces_length (c : UInt8) (l : List UInt8) : (pieces c l).length ≤ l.length + 1 := cutAt_length c l []
theorem cutAt_free (c : UInt8) : ∀ (l cur : List UInt8), c ∉ cur → ∀ p ∈ cutAt c cur l, c ∉ p
  | [], cur, h => fun p hp => by simp [cutAt] at hp; rw [hp]; exact h
  | x :: r, cur, h => fun p hp => by
    unfold cutAt at hp
    split at hp
    · rcases List.mem_cons.1 hp with rfl | hp
      · exact h
      · exact cutAt_free c r [] (by simp) p hp
    · rename_i hx
      exact cutAt_free c r _ (by simp [h, Ne.symm hx]) p hp
theorem pieces_free (c : UInt8) (l : List UInt8) : ∀ p ∈ pieces c l, c ∉ p := cutAt_free c l [] (by simp)
theorem cutAt_le (c : UInt8) : ∀ (l cur : List UInt8), ∀ p ∈ cutAt c cur l, p.length ≤ cur.length + l.length
  | [], cur => fun p hp => by simp [cutAt] at hp; rw [hp]; simp
  | x :: r, cur => fun p hp => by
    unfold cutAt at hp
    split at hp
    · rcases List.mem_cons.1 hp with rfl | hp
      · omega
      · have := cutAt_le c r [] p hp
        simp at this ⊢; omega
    · have := cutAt_le c r _ p hp
      simp at this ⊢; omega
theorem pieces_le (c : UInt8) (l : List UInt8) : ∀ p ∈ pieces c l, p.length ≤ l.length := fun p hp => by
  have := cutAt_le c l [] p hp
  simpa using this
/-- What was read ahead stands ahead of the first part. -/
def pre (cur : List UInt8) : List (List UInt8) → List (List UInt8)
  | [] => []
  | p :: ps => (cur ++ p) :: ps
theorem pre_nil (ls : List (List UInt8)) : pre [] ls = ls := by cases ls <;> rfl
theorem pre_pre (a b : List UInt8) (ls : List (List UInt8)) : pre a (pre b ls) = pre (a ++ b) ls := by
  cases ls with
  | nil => rfl
  | cons p ps => simp [pre]
theorem cutAt_pre (c : UInt8) : ∀ (l cur : List UInt8), cutAt c cur l = pre cur (cutAt c [] l)
  | [], cur => by simp [cutAt, pre]
  | x :: r, cur => by
    unfold cutAt
    split
    · simp [pre]
    · rw [cutAt_pre c r (cur ++ [x]), cutAt_pre c r ([] ++ [x]), pre_pre]; rfl
theorem pieces_eq {c : UInt8} (l : List UInt8) : pieces c (c :: l) = [] :: pieces c l := by
  unfold pieces; rw [cutAt, if_pos rfl]
theorem pieces_other {c x : UInt8} (l : List UInt8) (h : x ≠ c) : pieces c (x :: l) = pre [x] (pieces c l) := by
  unfold pieces; rw [cutAt, if_neg h]; exact cutAt_pre c l _

/-- The library's Split at one byte. -/
theorem index_eq (c : UInt8) (l : List UInt8) : Lib.index (c :: l) [c] = 0 := by rw [Lib.index]; simp [List.isPrefixOf]
theorem index_other {c x : UInt8} (l : List UInt8) (h : x ≠ c) : Lib.index (x :: l) [c] = if Lib.index l [c] == -1 then -1 else Lib.index l [c] + 1 := by
  have hp : ([c] : List UInt8).isPrefixOf (x :: l) = false := by simp [List.isPrefixOf, Ne.symm h]
  rw [Lib.index, hp]; simp
theorem splitK_miss {c : UInt8} {l : List UInt8} (h : Lib.index l [c] = -1) : ∀ k, Lib.splitK [c] 0 k l = [l]
  | 0 => rfl
  | k + 1 => by rw [Lib.splitK, h]; rfl
theorem split_pieces (c : UInt8) : ∀ l : List UInt8, Lib.split l [c] = pieces c l
  | [] => by
    have h : Lib.index [] [c] = -1 := by rw [Lib.index]; simp
    unfold Lib.split
    rw [splitK_miss h]; rfl
  | x :: r => by
    have ih := split_pieces c r
    by_cases h : x = c
    · subst h
      rw [pieces_eq, ← ih]
      unfold Lib.split
      rw [Lib.count_cons_eq, Nat.add_comm, Lib.splitK, index_eq]
      simp
    · rw [pieces_other r h, ← ih]
      unfold Lib.split
      rw [Lib.count_cons_ne x c r h]
      have hx := index_other r h
      by_cases hm : Lib.index r [c] = -1
      · rw [splitK_miss hm, splitK_miss (by rw [hx, hm]; rfl)]; rfl
      · have hge := Lib.index_ge r [c]
        obtain ⟨j, hj⟩ : ∃ j : Nat, Lib.index r [c] = j := ⟨(Lib.index r [c]).toNat, by omega⟩
        have hx' : Lib.index (x :: r) [c] = ((j + 1 : Nat) : Int) := by rw [hx, if_neg (fun e => hm (beq_iff_eq.1 e)), hj]; omega
        generalize Lib.count r [c] = k
        cases k with
        | zero => rfl
        | succ k =>
          have e1 : (((j + 1 : Nat) : Int) == -1) = false := by rw [beq_eq_false_iff_ne]; omega
          have e2 : ((j : Int) == -1) = false := by rw [beq_eq_false_iff_ne]; omega
          rw [Lib.splitK, Lib.splitK, hx', hj, e1, e2]
          simp only [Bool.false_eq_true, if_false, pre, Int.toNat_natCast]
          simp

/-- Parts joined by c. -/
def joinC (c : UInt8) (ps : List (List UInt8)) : List UInt8 := Lib.join ps [c]
theorem joinC_nil (c : UInt8) : joinC c [] = [] := rfl
theorem joinC_one (c : UInt8) (p : List UInt8) : joinC c [p] = p := Lib.join_one p [c]
theorem joinC_cons (c : UInt8) (p q : List UInt8) (r : List (List UInt8)) : joinC c (p :: q :: r) = p ++ c :: joinC c (q :: r) := by
  unfold joinC
  rw [Lib.join_cons, Lib.join_cons]
  simp [Lib.joinTail]
theorem joinC_cons' {c : UInt8} {p : List UInt8} {ps : List (List UInt8)} (h : ps ≠ []) : joinC c (p :: ps) = p ++ c :: joinC c ps := by
  cases ps with
  | nil => exact absurd rfl h
  | cons q r => exact joinC_cons c p q r
theorem join_cutAt (c : UInt8) : ∀ (l cur : List UInt8), joinC c (cutAt c cur l) = cur ++ l
  | [], cur => by rw [cutAt, joinC_one]; simp
  | x :: r, cur => by
    unfold cutAt
    split
    · rename_i h
      rw [joinC_cons' (cutAt_ne c r []), join_cutAt c r [], h]; rfl
    · rw [join_cutAt c r (cur ++ [x])]; simp
theorem join_pieces (c : UInt8) (l : List UInt8) : joinC c (pieces c l) = l := join_cutAt c l []
theorem cutAt_part {c : UInt8} : ∀ (p cur l : List UInt8), c ∉ p → cutAt c cur (p ++ l) = cutAt c (cur ++ p) l
  | [], cur, l, _ => by simp
  | x :: r, cur, l, h => by
    have hx : x ≠ c := fun e => h (by rw [e]; exact List.mem_cons_self)
    rw [List.cons_append, cutAt, if_neg hx, cutAt_part r (cur ++ [x]) l (fun e => h (List.mem_cons_of_mem _ e))]
    simp
theorem pieces_join {c : UInt8} : ∀ {ps : List (List UInt8)}, ps ≠ [] → (∀ p ∈ ps, c ∉ p) → pieces c (joinC c ps) = ps
  | [], h, _ => absurd rfl h
  | [p], _, hf => by
    have := cutAt_part (c := c) p [] [] (hf p (by simp))
    rw [List.append_nil] at this
    rw [joinC_one]; exact this
  | p :: q :: r, _, hf => by
    rw [joinC_cons]
    unfold pieces
    rw [cutAt_part p [] _ (hf p (by simp)), cutAt, if_pos rfl]
    have := pieces_join (c := c) (ps := q :: r) (by simp) (fun x hx => hf x (List.mem_cons_of_mem _ hx))
    unfold pieces at this
    rw [this]; rfl

/-- The parts that are not empty. -/
def words (l : List UInt8) : List (List UInt8) := (pieces 32 l).filter fun p => !p.isEmpty
theorem words_free (l : List UInt8) : ∀ p ∈ words l, (32 : UInt8) ∉ p := fun p hp => pieces_free 32 l p (List.mem_filter.1 hp).1
theorem words_length (l : List UInt8) : (words l).length ≤ l.length + 1 := Nat.le_trans (List.length_filter_le _ _) (pieces_length 32 l)
theorem words_le (l : List UInt8) : ∀ p ∈ words l, p.length ≤ l.length := fun p hp => pieces_le 32 l p (List.mem_filter.1 hp).1
theorem words_all {l : List UInt8} (h : ∀ p ∈ pieces 32 l, p ≠ []) : words l = pieces 32 l := by
  unfold words
  rw [List.filter_eq_self]
  intro p hp
  have := h p hp
  cases p with
  | nil => exact absurd rfl this
  | cons x r => rfl
theorem words_nil : words [] = [] := rfl
/-- Numbers in decimal hold no blank and are not empty. -/
theorem itoa_ne (n : Int) : Lib.itoa n ≠ [] := by
  unfold Lib.itoa
  split
  · simp
  · exact dec_ne _
theorem itoa_free (n : Int) {c : UInt8} (h1 : c ≠ 45) (h2 : dig c = false) : c ∉ Lib.itoa n := by
  unfold Lib.itoa
  have key : ∀ u, c ∉ Lib.decDigits u := fun u hc => by rw [dec_dig u c hc] at h2; cases h2
  split
  · intro hc
    rcases List.mem_cons.1 hc with hc | hc
    · exact h1 hc
    · exact key _ hc
  · exact key _

end Go.Proofs.YtplioelpmfeabaaDoor
