/- Slices of slices of int64: words, and plain facts on their numbers. -/
import Derived.Test.YtablnknjbkacfaaVd
import Derived.Test.YtablnknjbkacfaaVb
import Derived.Deep.OwnRows
namespace Go.Proofs.Ytablnknjbkacfaa
open Go.RowKit
set_option linter.unusedVariables false
set_option linter.unusedSimpArgs false

/-- A row: where it lies, how much it can take, what it reads as. -/
structure Row where
  a : Option Addr
  c : Nat
  xs : List Int
def rowV (r : Row) : Value := .slice r.a r.xs.length r.c

/-- The lengths of the first rows together. -/
def sumL (f : Nat → List Int) : Nat → Nat
  | 0 => 0
  | k + 1 => sumL f k + (f k).length
theorem sumL_succ (f : Nat → List Int) (k : Nat) : sumL f (k + 1) = sumL f k + (f k).length := rfl
theorem sumL_mono (f : Nat → List Int) {k n : Nat} (h : k ≤ n) : sumL f k ≤ sumL f n := by
  induction n with
  | zero => obtain rfl : k = 0 := by omega
            exact Nat.le_refl _
  | succ n ih =>
    rcases Nat.lt_or_ge n k with h1 | h1
    · obtain rfl : k = n + 1 := by omega
      exact Nat.le_refl _
    · rw [sumL_succ]; have := ih h1; omega
theorem sumL_at (f : Nat → List Int) {k n : Nat} (h : k < n) : (f k).length ≤ sumL f n := by
  have := sumL_mono f (show k + 1 ≤ n by omega)
  rw [sumL_succ] at this
  omega
theorem sumL_congr {f g : Nat → List Int} {n : Nat} (h : ∀ k, k < n → (f k).length = (g k).length) : sumL f n = sumL g n := by
  induction n with
  | zero => rfl
  | succ n ih => rw [sumL_succ, sumL_succ, ih (fun k hk => h k (by omega)), h n (by omega)]

/-- The first rows one behind the other. -/
def cat (f : Nat → List Int) : Nat → List Int
  | 0 => []
  | k + 1 => cat f k ++ f k
theorem cat_succ (f : Nat → List Int) (k : Nat) : cat f (k + 1) = cat f k ++ f k := rfl
theorem cat_length (f : Nat → List Int) (k : Nat) : (cat f k).length = sumL f k := by
  induction k with
  | zero => rfl
  | succ k ih => rw [cat_succ, List.length_append, ih, sumL_succ]

/-- Are the first n rows signals? -/
def sigs (f : Nat → List Int) : Nat → Bool
  | 0 => true
  | k + 1 => sigs f k && sigB (f k)
theorem sigs_yes {f : Nat → List Int} {n : Nat} (h : ∀ k, k < n → sigB (f k) = true) : sigs f n = true := by
  induction n with
  | zero => rfl
  | succ n ih => simp [sigs, ih (fun k hk => h k (by omega)), h n (by omega)]
theorem sigs_at {f : Nat → List Int} {n k : Nat} (h : sigs f n = true) (hk : k < n) : sigB (f k) = true := by
  induction n with
  | zero => omega
  | succ n ih =>
    simp [sigs] at h
    rcases Nat.lt_or_ge k n with h1 | h1
    · exact ih h.1 h1
    · obtain rfl : k = n := by omega
      exact h.2
theorem sigs_no {f : Nat → List Int} {n k : Nat} (hk : k < n) (h : sigB (f k) = false) : sigs f n = false := by
  cases hs : sigs f n
  · rfl
  · rw [sigs_at hs hk] at h; cases h

/-- Signals one after the other. -/
def joinR (f : Nat → List Int) (n : Nat) : List Int × Int := if sigs f n = true then (if 4000 < sumL f n then ([], 5) else (cat f n, 0)) else ([], 1)
theorem joinR_bad {f : Nat → List Int} {n : Nat} (h : sigs f n = false) : ([], 1) = joinR f n := by simp [joinR, h]
theorem joinR_full {f : Nat → List Int} {n k : Nat} (h : sigs f n = true) (hk : k ≤ n) (hs : 4000 < sumL f k) : ([], 5) = joinR f n := by
  have := sumL_mono f hk
  rw [joinR, if_pos h, if_pos (by omega)]
theorem joinR_ok {f : Nat → List Int} {n : Nat} (h : sigs f n = true) (hs : ¬ 4000 < sumL f n) : (cat f n, 0) = joinR f n := by
  rw [joinR, if_pos h, if_neg hs]

/-- The slice at A, of n rows, reads as the rows R. -/
def Top (w : World) (B : Nat) (A : Option Addr) (n : Nat) (R : Nat → Row) : Prop :=
  0 < n → ∃ b off, A = some ⟨b, off, none⟩ ∧ b < B ∧ ∀ k, k < n → w.cell? ⟨b, off + k, none⟩ = some (rowV (R k))
/-- A row that came in, or that was made. -/
structure RowOk (w : World) (B : Nat) (r : Row) : Prop where
  sl : Sl w B r.a r.xs
  cap : r.xs.length ≤ r.c
  capm : r.c ≤ maxLen
  i64 : ∀ x ∈ r.xs, I64 x
  nil : r.a = none → r.c = 0
/-- A slice of slices of int64. -/
structure SS (w : World) (B : Nat) (A : Option Addr) (n : Nat) (R : Nat → Row) : Prop where
  top : Top w B A n R
  rows : ∀ k, k < n → RowOk w B (R k)
theorem RowOk.below {w w' : World} {B B' : Nat} {r : Row} (h : RowOk w B r) (hb : Below B' w w') (hB : B ≤ B') : RowOk w' B r :=
  ⟨h.sl.below hb hB, h.cap, h.capm, h.i64, h.nil⟩
theorem RowOk.arg {w : World} {B : Nat} {r : Row} (h : RowOk w B r) (hB : B ≤ w.heap.size) (hl : r.xs.length ≤ 1048576) : Arg w r.a r.c r.xs :=
  ⟨h.sl.mono hB, hl, h.cap, h.capm, h.i64, h.nil⟩
theorem Top.below {w w' : World} {B B' n : Nat} {A : Option Addr} {R : Nat → Row} (h : Top w B A n R) (hb : Below B' w w') (hB : B ≤ B') : Top w' B A n R := by
  intro hp
  obtain ⟨b, off, rfl, hlt, hc⟩ := h hp
  exact ⟨b, off, rfl, hlt, fun k hk => (hb.cell (p := ⟨b, off + k, none⟩) (by exact Nat.lt_of_lt_of_le hlt hB)).trans (hc k hk)⟩
theorem SS.below {w w' : World} {B B' n : Nat} {A : Option Addr} {R : Nat → Row} (h : SS w B A n R) (hb : Below B' w w') (hB : B ≤ B') : SS w' B A n R :=
  ⟨h.top.below hb hB, fun k hk => (h.rows k hk).below hb hB⟩

/-- A slice of slices that the call itself made: row k lies in the blocks from L k on, below L (k + 1). -/
structure OwnSS (w : World) (lo hi g n : Nat) (R : Nat → Row) (L : Nat → Nat) : Prop where
  top : w.rowIs g 24 n (fun k => rowV (R k))
  lo_ : lo ≤ g
  first : g < L 0
  rise : ∀ k, k < n → L k ≤ L (k + 1)
  last : L n ≤ hi
  rows : ∀ k, k < n → Own w (L k) (L (k + 1)) (R k).a (R k).c (R k).xs
theorem rise_le {L : Nat → Nat} {n : Nat} (h : ∀ k, k < n → L k ≤ L (k + 1)) {j k : Nat} (hjk : j ≤ k) (hk : k ≤ n) : L j ≤ L k := by
  induction k with
  | zero => obtain rfl : j = 0 := by omega
            exact Nat.le_refl _
  | succ k ih =>
    rcases Nat.lt_or_ge k j with h1 | h1
    · obtain rfl : j = k + 1 := by omega
      exact Nat.le_refl _
    · exact Nat.le_trans (ih h1 (by omega)) (h k (by omega))
theorem OwnSS.lt {w : World} {lo hi g n : Nat} {R : Nat → Row} {L : Nat → Nat} (h : OwnSS w lo hi g n R L) : g < hi := by
  have := rise_le h.rise (Nat.zero_le n) (Nat.le_refl n)
  have := h.first
  have := h.last
  omega
theorem OwnSS.below {w w' : World} {lo hi g n B : Nat} {R : Nat → Row} {L : Nat → Nat} (h : OwnSS w lo hi g n R L) (hb : Below B w w') (hB : hi ≤ B) : OwnSS w' lo hi g n R L := by
  have hg := h.lt
  refine ⟨h.top.of_block (hb.block g (by omega)), h.lo_, h.first, h.rise, h.last, fun k hk => (h.rows k hk).below hb ?_⟩
  have := rise_le h.rise (show k + 1 ≤ n by omega) (Nat.le_refl n)
  have := h.last
  omega
theorem OwnSS.only {w w' : World} {lo hi g n lo' hi' : Nat} {R : Nat → Row} {L : Nat → Nat} (h : OwnSS w lo hi g n R L) (ho : Only lo' hi' w w') (hd : hi ≤ lo' ∨ hi' ≤ lo) : OwnSS w' lo hi g n R L := by
  have hg := h.lt
  have hlo := h.lo_
  have hsz := h.top.lt
  refine ⟨h.top.of_block (ho.block g hsz (by omega)), h.lo_, h.first, h.rise, h.last, fun k hk => (h.rows k hk).only ho ?_⟩
  have := rise_le h.rise (show k + 1 ≤ n by omega) (Nat.le_refl n)
  have := rise_le h.rise (show 0 ≤ k by omega) (show k ≤ n by omega)
  have := h.last
  have := h.first
  omega
theorem OwnSS.ss {w : World} {lo hi g n : Nat} {R : Nat → Row} {L : Nat → Nat} (h : OwnSS w lo hi g n R L) (i64 : ∀ k, k < n → ∀ x ∈ (R k).xs, I64 x) : SS w hi (some ⟨g, 0, none⟩) n R := by
  refine ⟨fun _ => ⟨g, 0, rfl, h.lt, fun k hk => by rw [Nat.zero_add]; exact h.top.cell hk⟩, fun k hk => ?_⟩
  have ho := h.rows k hk
  have := rise_le h.rise (show k + 1 ≤ n by omega) (Nat.le_refl n)
  have := h.last
  exact ⟨ho.sl.mono (by omega), (own_cap ho).1, (own_cap ho).2, i64 k hk, own_nil ho⟩

end Go.Proofs.Ytablnknjbkacfaa
