/- Words for functions over lists: what goes in, what comes out. -/
import Derived.Test.YtplioelpmfeabaaDoorSl
namespace Go.Proofs.YtplioelpmfeabaaDoor
open Go.RowKit
set_option linter.unusedVariables false
set_option linter.unusedSimpArgs false

/-- A list that a function gets. -/
structure Arg (w : World) (A : Option Addr) (c : Nat) (xs : List Int) : Prop where
  sl : Sl w w.heap.size A xs
  len : xs.length ≤ 1048576
  cap : xs.length ≤ c
  capm : c ≤ maxLen
  i64 : ∀ x ∈ xs, I64 x
  nil : A = none → c = 0
theorem own_cap {w : World} {lo hi : Nat} {A : Option Addr} {c : Nat} {xs : List Int} (h : Own w lo hi A c xs) : xs.length ≤ c ∧ c ≤ maxLen := by
  rcases h.1.2 with ⟨h0, h1⟩ | ⟨g, cap, cur, hv, _, _, hn, hm, _⟩
  · injection h0 with _ _ h2
    subst h2
    exact ⟨by omega, by unfold maxLen; omega⟩
  · injection hv with _ _ h2
    subst h2
    exact ⟨hn, hm⟩
theorem own_nil {w : World} {lo hi : Nat} {A : Option Addr} {c : Nat} {xs : List Int} (h : Own w lo hi A c xs) (hA : A = none) : c = 0 := by
  rcases h.1.2 with ⟨h0, h1⟩ | ⟨g, cap, cur, hv, _⟩
  · injection h0
  · rw [hA] at hv; injection hv with hv; cases hv
theorem Own.arg {w : World} {lo hi : Nat} {A : Option Addr} {c : Nat} {xs : List Int} (h : Own w lo hi A c xs) (hh : hi ≤ w.heap.size) (hl : ¬ 1048576 < xs.length) (h64 : ∀ x ∈ xs, I64 x) : Arg w A c xs :=
  ⟨h.sl.mono hh, by omega, (own_cap h).1, (own_cap h).2, h64, own_nil h⟩
theorem Arg.below {w w' : World} {A : Option Addr} {c : Nat} {xs : List Int} (h : Arg w A c xs) (hb : Below w.heap.size w w') : Arg w' A c xs :=
  ⟨(h.sl.below hb (Nat.le_refl _)).mono hb.size, h.len, h.cap, h.capm, h.i64, h.nil⟩

def IntsIs (r : List Int × Int) (w : World) (e : Ending) (w' : World) : Prop :=
  ∃ ys code A c, e = .returned (.tuple #[.slice A ys.length c, .int .i64 code]) ∧ (ys, code) = r ∧ ys.length ≤ 1048576 ∧ Own w' w.heap.size w'.heap.size A c ys ∧ Below w.heap.size w w'
def BIs (r : Bool) (w : World) (e : Ending) (w' : World) : Prop := ∃ b, e = .returned (.bool b) ∧ b = r ∧ Below w.heap.size w w'
def IBIs (r : Int × Bool) (w : World) (e : Ending) (w' : World) : Prop := ∃ n b, e = .returned (.tuple #[.int .i64 n, .bool b]) ∧ (n, b) = r ∧ Below w.heap.size w w'
def IIIs (r : Int × Int) (w : World) (e : Ending) (w' : World) : Prop := ∃ n b, e = .returned (.tuple #[.int .i64 n, .int .i64 b]) ∧ (n, b) = r ∧ Below w.heap.size w w'

/-- eqInt64S on equal lists. -/
theorem eqBel_any (A B : Option Addr) (c d : Nat) (xs : List Int) (w : World) (B1 B2 : Nat) (h1 : Sl w B1 A xs) (h2 : Sl w B2 B xs) (hl : ¬ 1048576 < xs.length) :
    Calls Tryd.prog 30 #[.slice A xs.length c, .slice B xs.length d] w fun e w' => e = .returned (.bool true) ∧ Below w.heap.size w w' :=
  (eqSame_any A B c d xs w B1 B2 h1 h2 (by omega)).mono fun _ _ ⟨h, m, hw⟩ => ⟨h, hw ▸ below_of_drewN w m⟩

end Go.Proofs.YtplioelpmfeabaaDoor
