/- Memory words: a slice of int64 that reads as a list; a slice that the call itself made. -/
import Derived.Test.YtplioelpmfeabaaDoorPa
import Derived.WalkKit
import Derived.Deep.Draws
import Derived.Deep.QuietTactic
namespace Go.Proofs.YtplioelpmfeabaaDoor
open Go.RowKit
set_option linter.unusedVariables false
set_option linter.unusedSimpArgs false

/-- The call answers whether P holds, and leaves the world as it was. -/
def BoolIs (P : Prop) (w : World) (e : Ending) (w' : World) : Prop := ∃ b, e = .returned (.bool b) ∧ (b = true ↔ P) ∧ w = w'
theorem BoolIs.yes {P : Prop} {w : World} (h : P) : BoolIs P w (.returned (.bool true)) w := ⟨true, rfl, ⟨fun _ => h, fun _ => rfl⟩, rfl⟩
theorem BoolIs.no {P : Prop} {w : World} (h : ¬ P) : BoolIs P w (.returned (.bool false)) w := ⟨false, rfl, ⟨fun e => (by cases e), fun e => absurd e h⟩, rfl⟩
theorem BoolIs.is {P : Prop} {w : World} {b : Bool} (h : b = true ↔ P) : BoolIs P w (.returned (.bool b)) w := ⟨b, rfl, h, rfl⟩
theorem bool_same {P : Prop} {a b : Bool} (h : a = true ↔ P) (h' : b = true ↔ P) : a = b := by rw [Bool.eq_iff_iff, h, h']

/-- A number that an int64 holds. -/
def I64 (n : Int) : Prop := -9223372036854775808 ≤ n ∧ n ≤ 9223372036854775807

/-- The numbers as values. -/
def vals (xs : List Int) : List Value := xs.map (Value.int .i64)
theorem vals_length (xs : List Int) : (vals xs).length = xs.length := by simp [vals]
theorem vals_append (xs ys : List Int) : vals (xs ++ ys) = vals xs ++ vals ys := by simp [vals]
theorem vals_set (xs : List Int) (i : Nat) (n : Int) : (vals xs).set i (.int .i64 n) = vals (xs.set i n) := by simp [vals, List.map_set]
theorem vals_get (xs : List Int) (i : Nat) (h : i < xs.length) : (vals xs)[i]? = some (.int .i64 (xs.getD i 0)) := by
  simp [vals, List.getD_eq_getElem?_getD, h]
theorem vals_one (xs : List Int) : ∀ u ∈ vals xs, u.oneCell' = true := ints_oneCell _ _

/-- The slice at A, of xs.length elements, reads as xs, below block B. -/
def Sl (w : World) (B : Nat) (A : Option Addr) (xs : List Int) : Prop :=
  0 < xs.length → ∃ b off, A = some ⟨b, off, none⟩ ∧ b < B ∧ ∀ k, k < xs.length → w.cell? ⟨b, off + k, none⟩ = some (.int .i64 (xs.getD k 0))

/-- A slice of int64 that came in. -/
def SlIn (w : World) (B : Nat) (A : Option Addr) (c : Nat) (xs : List Int) : Prop := Sl w B A xs ∧ (∀ x ∈ xs, I64 x) ∧ xs.length ≤ c ∧ xs.length ≤ maxLen

theorem Sl.nil (w : World) (B : Nat) (A : Option Addr) : Sl w B A [] := fun h => absurd h (by simp)
theorem Sl.below {w w' : World} {B B' : Nat} {A : Option Addr} {xs : List Int} (h : Sl w B A xs) (hb : Below B' w w') (hB : B ≤ B') : Sl w' B A xs := by
  intro hp
  obtain ⟨b, off, rfl, hlt, hc⟩ := h hp
  exact ⟨b, off, rfl, hlt, fun k hk => (hb.cell (p := ⟨b, off + k, none⟩) (by exact Nat.lt_of_lt_of_le hlt hB)).trans (hc k hk)⟩
theorem Sl.mono {w : World} {B B' : Nat} {A : Option Addr} {xs : List Int} (h : Sl w B A xs) (hB : B ≤ B') : Sl w B' A xs := by
  intro hp
  obtain ⟨b, off, rfl, hlt, hc⟩ := h hp
  exact ⟨b, off, rfl, Nat.lt_of_lt_of_le hlt hB, hc⟩

/-- The slice at A owns xs, in a block from lo on and below hi. -/
def Own (w : World) (lo hi : Nat) (A : Option Addr) (c : Nat) (xs : List Int) : Prop :=
  w.ownsRow lo 2 1 (.slice A xs.length c) xs.length (vals xs) ∧ ∀ a, A = some a → a.block < hi

theorem row_form {w : World} {base : Nat} {e : TypeId} {size : Nat} {v : Value} {n : Nat} {xs : List Value} (h : w.ownsRow base e size v n xs) : ∃ A c, v = .slice A n c := by
  rcases h.2 with ⟨rfl, rfl⟩ | ⟨g, cap, cur, rfl, _⟩
  · exact ⟨none, 0, rfl⟩
  · exact ⟨_, cap, rfl⟩
theorem Own.nil (w : World) (lo hi : Nat) : Own w lo hi none 0 [] := ⟨World.ownsRow_nil w lo _ _, fun _ h => by cases h⟩
theorem Own.of_row {w : World} {lo : Nat} {v : Value} {xs : List Int} (h : w.ownsRow lo 2 1 v xs.length (vals xs)) : ∃ A c, v = .slice A xs.length c ∧ Own w lo w.heap.size A c xs := by
  obtain ⟨A, c, rfl⟩ := row_form h
  refine ⟨A, c, rfl, h, fun a ha => ?_⟩
  subst ha
  exact (h.lt a.block (by simp [Value.ownBlock])).2
theorem Own.form {w : World} {lo hi : Nat} {A : Option Addr} {c : Nat} {xs : List Int} (h : Own w lo hi A c xs) (hp : 0 < xs.length) : ∃ g, A = some ⟨g, 0, none⟩ ∧ lo ≤ g ∧ g < hi := by
  rcases h.1.2 with ⟨_, h0⟩ | ⟨g, cap, cur, hv, hb, _⟩
  · omega
  · have hA : A = some ⟨g, 0, none⟩ := by injection hv
    exact ⟨g, hA, hb, h.2 _ hA⟩
theorem Own.sl {w : World} {lo hi : Nat} {A : Option Addr} {c : Nat} {xs : List Int} (h : Own w lo hi A c xs) : Sl w hi A xs := by
  intro hp
  obtain ⟨g, rfl, _, hlt⟩ := h.form hp
  refine ⟨g, 0, rfl, hlt, fun k hk => ?_⟩
  have := h.1.cellAt k (by omega)
  rw [Nat.zero_add, this, vals_get _ _ hk]
theorem Own.mono {w : World} {lo hi lo' hi' : Nat} {A : Option Addr} {c : Nat} {xs : List Int} (h : Own w lo hi A c xs) (hl : lo' ≤ lo) (hh : hi ≤ hi') : Own w lo' hi' A c xs := by
  refine ⟨⟨h.1.1, ?_⟩, fun a ha => Nat.lt_of_lt_of_le (h.2 a ha) hh⟩
  rcases h.1.2 with h0 | ⟨g, cap, cur, hv, hb, r⟩
  · exact .inl h0
  · exact .inr ⟨g, cap, cur, hv, Nat.le_trans hl hb, r⟩

theorem below_drewN_ {B n : Nat} {a w : World} (h : Below B a w) : Below B a (w.drewN n) := ⟨h.os, h.tape, h.output, h.size, h.block⟩

theorem bcell {W w1 : World} (hb : Below W.heap.size W w1) : (∀ b o, b < W.heap.size → w1.cell? ⟨b, o, none⟩ = W.cell? ⟨b, o, none⟩) ∧ (∀ b o, b < W.heap.size → w1.frozen? ⟨b, o, none⟩ = W.frozen? ⟨b, o, none⟩) :=
  ⟨fun b o h => hb.cell (p := ⟨b, o, none⟩) h, fun b o h => hb.frozen (p := ⟨b, o, none⟩) h⟩
theorem below_of_drewN (w : World) (n : Nat) : Below w.heap.size w (w.drewN n) := ⟨rfl, rfl, rfl, Nat.le_refl _, fun _ _ => rfl⟩
theorem quiet_eq {P : Program} {f : FuncId} {args : Array Value} {w : World} {n : Nat} {v : Value}
    (h : Calls P f args (w.drewN n) fun e w' => e = .returned v ∧ w.drewN n = w') : Calls P f args (w.drewN n) fun e w'' => e = .returned v ∧ ∃ m, w'' = w.drewN m :=
  h.mono fun _ _ ⟨he, hm⟩ => ⟨he, n, hm.symm⟩
/-- A call behind other steps: what lay below B at the start is as it was. -/
theorem nxt {B : Nat} {a w w' : World} (h : Below B a w) (k : Below w.heap.size w w') (hB : B ≤ w.heap.size) : Below B a w' := h.trans (k.mono hB)

theorem vals_replicate (n : Nat) : List.replicate n (Value.int .i64 0) = vals (List.replicate n 0) := by simp [vals]
theorem Own.set {w : World} {lo hi g : Nat} {c : Nat} {xs : List Int} (h : Own w lo hi (some ⟨g, 0, none⟩) c xs) (j : Nat) (n : Int) :
    Own (w.setCell ⟨g, j, none⟩ (.int .i64 n)) lo hi (some ⟨g, 0, none⟩) c (xs.set j n) := by
  have := (h.1.stored j (.int .i64 n)).1
  rw [vals_set] at this
  refine ⟨?_, h.2⟩
  rw [List.length_set]
  exact this
theorem Own.notFrozen {w : World} {lo hi g : Nat} {c : Nat} {xs : List Int} (h : Own w lo hi (some ⟨g, 0, none⟩) c xs) (j : Nat) : w.frozen? ⟨g, j, none⟩ = false := h.1.frozenAt j
theorem Own.cell {w : World} {lo hi g : Nat} {c : Nat} {xs : List Int} (h : Own w lo hi (some ⟨g, 0, none⟩) c xs) (j : Nat) (hj : j < xs.length) : w.cell? ⟨g, j, none⟩ = some (.int .i64 (xs.getD j 0)) := by
  rw [h.1.cellAt j (by omega), vals_get _ _ hj]
theorem Own.alloc {w : World} {lo hi : Nat} {A : Option Addr} {c : Nat} {xs : List Int} (h : Own w lo hi A c xs) (o : Obj) : Own (w.alloc o) lo hi A c xs := ⟨h.1.alloc o, h.2⟩
theorem Own.drewN {w : World} {lo hi : Nat} {A : Option Addr} {c : Nat} {xs : List Int} (h : Own w lo hi A c xs) (n : Nat) : Own (w.drewN n) lo hi A c xs := h
theorem Sl.drewN {w : World} {B : Nat} {A : Option Addr} {xs : List Int} (h : Sl w B A xs) (n : Nat) : Sl (w.drewN n) B A xs := h

/-- Outside the blocks from lo on and below hi the world w' is as w was. -/
structure Only (lo hi : Nat) (w w' : World) : Prop where
  os : w'.os = w.os
  tape : w'.tape = w.tape
  output : w'.output = w.output
  size : w.heap.size ≤ w'.heap.size
  block : ∀ k, k < w.heap.size → (k < lo ∨ hi ≤ k) → w'.heap[k]? = w.heap[k]?
theorem Only.refl (lo hi : Nat) (w : World) : Only lo hi w w := ⟨rfl, rfl, rfl, Nat.le_refl _, fun _ _ _ => rfl⟩
theorem Only.of_below {lo hi : Nat} {w w' : World} (h : Below w.heap.size w w') : Only lo hi w w' := ⟨h.os, h.tape, h.output, h.size, fun k hk _ => h.block k hk⟩
theorem Only.below {lo hi B : Nat} {w w' : World} (h : Only lo hi w w') (hB : B ≤ lo) (hs : B ≤ w.heap.size) : Below B w w' := ⟨h.os, h.tape, h.output, h.size, fun k hk => h.block k (by omega) (.inl (by omega))⟩
theorem Only.setCell {lo hi : Nat} {a w : World} (h : Only lo hi a w) {p : Addr} (hp : lo ≤ p.block) (hp' : p.block < hi) (u : Value) : Only lo hi a (w.setCell p u) :=
  ⟨h.os, h.tape, h.output, by simpa [World.setCell] using h.size, fun k hk hd => (Below.heap_setCell _ _ _ _ (by omega)).trans (h.block k hk hd)⟩
theorem Only.trans {lo hi : Nat} {a b c : World} (h : Only lo hi a b) (k : Only lo hi b c) : Only lo hi a c :=
  ⟨k.os.trans h.os, k.tape.trans h.tape, k.output.trans h.output, Nat.le_trans h.size k.size, fun i hi' hd => (k.block i (Nat.lt_of_lt_of_le hi' h.size) hd).trans (h.block i hi' hd)⟩
theorem Only.drewN {lo hi : Nat} {a w : World} (h : Only lo hi a w) (n : Nat) : Only lo hi a (w.drewN n) := ⟨h.os, h.tape, h.output, h.size, h.block⟩
theorem Own.only {w w' : World} {lo hi lo' hi' : Nat} {A : Option Addr} {c : Nat} {xs : List Int} (h : Own w lo hi A c xs) (ho : Only lo' hi' w w') (hd : hi ≤ lo' ∨ hi' ≤ lo) : Own w' lo hi A c xs := by
  refine ⟨⟨h.1.1, ?_⟩, h.2⟩
  rcases h.1.2 with h0 | ⟨g, cap, cur, hv, hb, hg, r⟩
  · exact .inl h0
  · have hA : A = some ⟨g, 0, none⟩ := by injection hv
    have hlt := h.2 _ hA
    have hsz : g < w.heap.size := (Array.getElem?_eq_some_iff.1 hg).1
    exact .inr ⟨g, cap, cur, hv, hb, by rw [ho.block g hsz (by simp at hlt; omega)]; exact hg, r⟩
theorem Own.setFar {w : World} {lo hi : Nat} {A : Option Addr} {c : Nat} {xs : List Int} (h : Own w lo hi A c xs) {p : Addr} (hp : p.block < lo ∨ hi ≤ p.block) (u : Value) : Own (w.setCell p u) lo hi A c xs :=
  h.only ((Only.refl p.block (p.block + 1) w).setCell (Nat.le_refl _) (Nat.lt_succ_self _) u) (by omega)
theorem Own.below {w w' : World} {lo hi B : Nat} {A : Option Addr} {c : Nat} {xs : List Int} (h : Own w lo hi A c xs) (hb : Below B w w') (hB : hi ≤ B) : Own w' lo hi A c xs := by
  refine ⟨⟨h.1.1, ?_⟩, h.2⟩
  rcases h.1.2 with h0 | ⟨g, cap, cur, hv, hl, hg, r⟩
  · exact .inl h0
  · have hA : A = some ⟨g, 0, none⟩ := by injection hv
    have hlt := h.2 _ hA
    exact .inr ⟨g, cap, cur, hv, hl, by rw [hb.block g (by simp at hlt; omega)]; exact hg, r⟩

end Go.Proofs.YtplioelpmfeabaaDoor
