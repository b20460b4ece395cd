/- Laws for the walk: append onto a slice of the call's own. -/
import Derived.Test.YtplioelpmfeabaaDoorSl
import Derived.Maps.AppendAt
import Derived.Laws.AppendOwnNone
namespace Go.Proofs.YtplioelpmfeabaaDoor
open Go.RowKit
set_option linter.unusedVariables false
set_option linter.unusedSimpArgs false

theorem own_of_row {w : World} {lo : Nat} {v : Value} {n : Nat} {xs : List Int} (hn : n = xs.length) (h : w.ownsRow lo 2 1 v n (vals xs)) : ∃ A c, v = .slice A n c ∧ Own w lo w.heap.size A c xs := by
  subst hn
  exact Own.of_row h
theorem Own.lit (w : World) (xs : List Int) (hl : xs.length ≤ maxLen) : Own (w.alloc (.cells (vals xs).toArray 2)) w.heap.size (w.heap.size + 1) (some ⟨w.heap.size, 0, none⟩) xs.length xs := by
  refine ⟨?_, fun a ha => by cases ha; simp⟩
  have := World.ownsRow_lit (base := w.heap.size) (e := 2) (size := 1) w (vals xs).toArray xs.length (Nat.le_refl _) hl (by simp [vals_length])
  simpa using this
theorem below_grown {w w' : World} {lo : Nat} {A : Option Addr} {n c : Nat} (h : w.grownBy w' (Value.ownBlock (.slice A n c))) (hlo : lo ≤ w.heap.size) (hA : ∀ a, A = some a → lo ≤ a.block) : Below lo w w' := by
  refine ⟨h.os, h.tape, h.output, h.size, fun k hk => h.block k (by omega) (fun e => ?_)⟩
  rcases A with _ | ⟨b, o, s⟩
  · simp [Value.ownBlock] at e
  · have := hA _ rfl
    simp [Value.ownBlock] at e this
    omega
theorem Own.lo_ {w : World} {lo hi : Nat} {A : Option Addr} {c : Nat} {xs : List Int} (h : Own w lo hi A c xs) : ∀ a, A = some a → lo ≤ a.block := by
  intro a ha
  rcases h.1.2 with ⟨h0, _⟩ | ⟨g, cap, cur, hv, hb, _⟩
  · rw [ha] at h0; cases h0
  · rw [ha] at hv
    injection hv with hv
    injection hv with hv
    subst hv
    exact hb

set_option maxRecDepth 100000 in
/-- append(s, n), s a slice of the call's own. -/
theorem wl_app1 {ops : Array Oper} {rest : List Oper} {o : Oper} {a : Act} {Q : Exit → Act → World → Prop} {w : World} {lo hi : Nat} (hgd : o.guard = none) (s x : Operand)
    (ho : o.op = .call { callee := .builtin .append, args := #[s, x], argTypes := #[40, 40] })
    (A : Option Addr) (c : Nat) (xs : List Int) (n : Int) (m : Nat) (hs : a.eval s = .slice A m c) (hown : Own w lo hi A c xs) (hm : m = xs.length)
    (hx : a.eval x = .slice (some ⟨w.heap.size, 0, none⟩) 1 1) (hlen : m ≤ 1099511627776) (hlo : lo ≤ w.heap.size)
    (h : ∀ A' c' w', Own w' lo w'.heap.size A' c' (xs ++ [n]) → Below lo w w' → wpList Tryd.prog ops Q rest (a.put o.dst (.slice A' (m + 1) c')) w') :
    wpList Tryd.prog ops Q (o :: rest) a (w.alloc (.cells #[.int .i64 n] 2)) := by
  subst hm
  obtain ⟨i0, hi0, hz0, hz1, hz2⟩ := info_parts infoI
  refine wpList_append_own _ hgd s x 40 ho lo 2 i0 (.int .i64 0) 1 8 Tryd.underlying40 hi0 hz0 hz1 hz2 rfl (by decide) _ _ _ hs (hown.alloc _).1 _ 1 1 [.int .i64 n] hx rfl (cell_one_new _ _ _) (fun u hu => ?_) (by unfold maxLen; omega) (by omega) (by simp; omega) ?_
  · simp at hu; subst hu; rfl
  · intro v' w' h1 h2 _
    obtain ⟨A', c', rfl, hO⟩ := own_of_row (n := xs.length + 1) (xs := xs ++ [n]) (by simp) (by rw [vals_append]; exact h1)
    exact h A' c' w' hO (((Below.refl lo w).alloc hlo _).trans (below_grown h2 (by simp; omega) hown.lo_))

set_option maxRecDepth 100000 in
/-- append(s, ys...), s a slice of the call's own. -/
theorem wl_apps {ops : Array Oper} {rest : List Oper} {o : Oper} {a : Act} {Q : Exit → Act → World → Prop} {w : World} {lo hi : Nat} (hgd : o.guard = none) (s x : Operand)
    (ho : o.op = .call { callee := .builtin .append, args := #[s, x], argTypes := #[40, 40] })
    (A : Option Addr) (c : Nat) (xs : List Int) (m : Nat) (hs : a.eval s = .slice A m c) (hown : Own w lo hi A c xs) (hm : m = xs.length)
    (B : Nat) (A2 : Option Addr) (c2 : Nat) (ys : List Int) (m2 : Nat) (hx : a.eval x = .slice A2 m2 c2) (hsl : Sl w B A2 ys) (hm2 : m2 = ys.length) (hnil : A2 = none → c2 = 0)
    (hlen : m + m2 ≤ 1099511627776) (hlo : lo ≤ w.heap.size)
    (h : ∀ A' c' w', Own w' lo w'.heap.size A' c' (xs ++ ys) → Below lo w w' → wpList Tryd.prog ops Q rest (a.put o.dst (.slice A' (m + m2) c')) w') :
    wpList Tryd.prog ops Q (o :: rest) a w := by
  subst hm hm2
  obtain ⟨i0, hi0, hz0, hz1, hz2⟩ := info_parts infoI
  rcases A2 with _ | ad
  · have h0 : ys = [] := by
      rcases Nat.eq_zero_or_pos ys.length with h0 | h0
      · exact List.eq_nil_of_length_eq_zero h0
      · obtain ⟨b, off, hb, _⟩ := hsl h0
        cases hb
    subst h0
    have hc2 := hnil rfl
    subst hc2
    refine wpList_append_own_none hgd s x 40 ho lo 2 i0 1 Tryd.underlying40 hi0 _ _ _ hs hown.1 hx ?_
    have hh : ∀ a, A = some a → a.block < w.heap.size := fun a ha => by
      subst ha
      exact (hown.1.lt a.block (by simp [Value.ownBlock])).2
    exact h A c w (by rw [List.append_nil]; exact ⟨hown.1, hh⟩) (Below.refl _ _)
  · refine wpList_append_own _ hgd s x 40 ho lo 2 i0 (.int .i64 0) 1 8 Tryd.underlying40 hi0 hz0 hz1 hz2 rfl (by decide) _ _ _ hs hown.1 ad ys.length c2 (vals ys) hx (by rw [vals_length]; omega) ?_ (vals_one ys) (by unfold maxLen; omega) (by omega) hlo ?_
    · intro j u hu
      have hj : j < ys.length := by
        have := (List.getElem?_eq_some_iff.1 hu).1
        rwa [vals_length] at this
      obtain ⟨b, off, hb, _, hc⟩ := hsl (by omega)
      injection hb with hb
      subst hb
      rw [vals_get _ _ hj] at hu
      injection hu with hu
      have := hc j hj
      rw [← hu, ← this]
      unfold Addr.add
      split <;> simp_all
    · intro v' w' h1 h2 _
      obtain ⟨A', c', rfl, hO⟩ := own_of_row (n := xs.length + ys.length) (xs := xs ++ ys) (by simp) (by rw [vals_append]; exact h1)
      exact h A' c' w' hO (below_grown h2 hlo hown.lo_)

end Go.Proofs.YtplioelpmfeabaaDoor
