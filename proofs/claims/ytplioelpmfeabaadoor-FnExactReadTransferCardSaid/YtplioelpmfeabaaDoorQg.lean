/- Memory words for slices of any element of one cell: a slice that reads as values; a slice that the call itself made; laws for append. -/
import Derived.Test.YtplioelpmfeabaaDoorMe
import Derived.Maps.AppendAt
import Derived.Laws.AppendOwnNone
import Derived.Lib.Hide
namespace Go.Proofs.YtplioelpmfeabaaDoor
open Go.RowKit
set_option linter.unusedVariables false
set_option linter.unusedSimpArgs false

/-- The slice at A, of vs.length elements, reads as vs, below block B. -/
def SlG (w : World) (B : Nat) (A : Option Addr) (vs : List Value) : Prop :=
  0 < vs.length → ∃ b off, A = some ⟨b, off, none⟩ ∧ b < B ∧ ∀ k, k < vs.length → w.cell? ⟨b, off + k, none⟩ = some (vs.getD k undef)
theorem SlG.nil (w : World) (B : Nat) (A : Option Addr) : SlG w B A [] := fun h => absurd h (by simp)
theorem SlG.below {w w' : World} {B B' : Nat} {A : Option Addr} {vs : List Value} (h : SlG w B A vs) (hb : Below B' w w') (hB : B ≤ B') : SlG w' B A vs := by
  intro hp
  obtain ⟨b, off, rfl, hlt, hc⟩ := h hp
  exact ⟨b, off, rfl, hlt, fun k hk => (hb.cell (p := ⟨b, off + k, none⟩) (by exact Nat.lt_of_lt_of_le hlt hB)).trans (hc k hk)⟩
theorem SlG.mono {w : World} {B B' : Nat} {A : Option Addr} {vs : List Value} (h : SlG w B A vs) (hB : B ≤ B') : SlG w B' A vs := by
  intro hp
  obtain ⟨b, off, rfl, hlt, hc⟩ := h hp
  exact ⟨b, off, rfl, Nat.lt_of_lt_of_le hlt hB, hc⟩

/-- The slice at A owns vs, of the element type T, in a block from lo on and below hi. -/
def OwnG (T : TypeId) (w : World) (lo hi : Nat) (A : Option Addr) (c : Nat) (vs : List Value) : Prop :=
  w.ownsRow lo T 1 (.slice A vs.length c) vs.length vs ∧ ∀ a, A = some a → a.block < hi

theorem getD_val {vs : List Value} {k : Nat} (h : k < vs.length) : vs[k]? = some (vs.getD k undef) := by simp [List.getD_eq_getElem?_getD, h]
theorem OwnG.nil (T : TypeId) (w : World) (lo hi : Nat) : OwnG T w lo hi none 0 [] := ⟨World.ownsRow_nil w lo _ _, fun _ h => by cases h⟩
theorem OwnG.of_row {T : TypeId} {w : World} {lo : Nat} {v : Value} {n : Nat} {vs : List Value} (hn : n = vs.length) (h : w.ownsRow lo T 1 v n vs) : ∃ A c, v = .slice A n c ∧ OwnG T w lo w.heap.size A c vs := by
  subst hn
  obtain ⟨A, c, rfl⟩ := row_form h
  refine ⟨A, c, rfl, h, fun a ha => ?_⟩
  subst ha
  exact (h.lt a.block (by simp [Value.ownBlock])).2
theorem OwnG.form {T : TypeId} {w : World} {lo hi : Nat} {A : Option Addr} {c : Nat} {vs : List Value} (h : OwnG T w lo hi A c vs) (hp : 0 < vs.length) : ∃ g, A = some ⟨g, 0, none⟩ ∧ lo ≤ g ∧ g < hi := by
  rcases h.1.2 with ⟨_, h0⟩ | ⟨g, cap, cur, hv, hb, _⟩
  · omega
  · have hA : A = some ⟨g, 0, none⟩ := by injection hv
    exact ⟨g, hA, hb, h.2 _ hA⟩
theorem OwnG.cell {T : TypeId} {w : World} {lo hi g : Nat} {c : Nat} {vs : List Value} (h : OwnG T w lo hi (some ⟨g, 0, none⟩) c vs) (j : Nat) (hj : j < vs.length) : w.cell? ⟨g, j, none⟩ = some (vs.getD j undef) := by
  rw [h.1.cellAt j (by omega), getD_val hj]
theorem OwnG.sl {T : TypeId} {w : World} {lo hi : Nat} {A : Option Addr} {c : Nat} {vs : List Value} (h : OwnG T w lo hi A c vs) : SlG w hi A vs := by
  intro hp
  obtain ⟨g, rfl, _, hlt⟩ := h.form hp
  exact ⟨g, 0, rfl, hlt, fun k hk => by rw [Nat.zero_add]; exact h.cell k hk⟩
theorem OwnG.mono {T : TypeId} {w : World} {lo hi lo' hi' : Nat} {A : Option Addr} {c : Nat} {vs : List Value} (h : OwnG T w lo hi A c vs) (hl : lo' ≤ lo) (hh : hi ≤ hi') : OwnG T w lo' hi' A c vs := by
  refine ⟨⟨h.1.1, ?_⟩, fun a ha => Nat.lt_of_lt_of_le (h.2 a ha) hh⟩
  rcases h.1.2 with h0 | ⟨g, cap, cur, hv, hb, r⟩
  · exact .inl h0
  · exact .inr ⟨g, cap, cur, hv, Nat.le_trans hl hb, r⟩
theorem OwnG.set {T : TypeId} {w : World} {lo hi g : Nat} {c : Nat} {vs : List Value} (h : OwnG T w lo hi (some ⟨g, 0, none⟩) c vs) (j : Nat) (v : Value) :
    OwnG T (w.setCell ⟨g, j, none⟩ v) lo hi (some ⟨g, 0, none⟩) c (vs.set j v) := by
  have := (h.1.stored j v).1
  refine ⟨?_, h.2⟩
  rw [List.length_set]
  exact this
theorem OwnG.notFrozen {T : TypeId} {w : World} {lo hi g : Nat} {c : Nat} {vs : List Value} (h : OwnG T w lo hi (some ⟨g, 0, none⟩) c vs) (j : Nat) : w.frozen? ⟨g, j, none⟩ = false := h.1.frozenAt j
theorem OwnG.alloc {T : TypeId} {w : World} {lo hi : Nat} {A : Option Addr} {c : Nat} {vs : List Value} (h : OwnG T w lo hi A c vs) (o : Obj) : OwnG T (w.alloc o) lo hi A c vs := ⟨h.1.alloc o, h.2⟩
theorem OwnG.drewN {T : TypeId} {w : World} {lo hi : Nat} {A : Option Addr} {c : Nat} {vs : List Value} (h : OwnG T w lo hi A c vs) (n : Nat) : OwnG T (w.drewN n) lo hi A c vs := h
theorem OwnG.only {T : TypeId} {w w' : World} {lo hi lo' hi' : Nat} {A : Option Addr} {c : Nat} {vs : List Value} (h : OwnG T w lo hi A c vs) (ho : Only lo' hi' w w') (hd : hi ≤ lo' ∨ hi' ≤ lo) : OwnG T w' lo hi A c vs := by
  refine ⟨⟨h.1.1, ?_⟩, h.2⟩
  rcases h.1.2 with h0 | ⟨g, cap, cur, hv, hb, hg, r⟩
  · exact .inl h0
  · have hA : A = some ⟨g, 0, none⟩ := by injection hv
    have hlt := h.2 _ hA
    have hsz : g < w.heap.size := (Array.getElem?_eq_some_iff.1 hg).1
    exact .inr ⟨g, cap, cur, hv, hb, by rw [ho.block g hsz (by simp at hlt; omega)]; exact hg, r⟩
theorem OwnG.setFar {T : TypeId} {w : World} {lo hi : Nat} {A : Option Addr} {c : Nat} {vs : List Value} (h : OwnG T w lo hi A c vs) {p : Addr} (hp : p.block < lo ∨ hi ≤ p.block) (u : Value) : OwnG T (w.setCell p u) lo hi A c vs :=
  h.only ((Only.refl p.block (p.block + 1) w).setCell (Nat.le_refl _) (Nat.lt_succ_self _) u) (by omega)
theorem OwnG.below {T : TypeId} {w w' : World} {lo hi B : Nat} {A : Option Addr} {c : Nat} {vs : List Value} (h : OwnG T w lo hi A c vs) (hb : Below B w w') (hB : hi ≤ B) : OwnG T w' lo hi A c vs := by
  refine ⟨⟨h.1.1, ?_⟩, h.2⟩
  rcases h.1.2 with h0 | ⟨g, cap, cur, hv, hl, hg, r⟩
  · exact .inl h0
  · have hA : A = some ⟨g, 0, none⟩ := by injection hv
    have hlt := h.2 _ hA
    exact .inr ⟨g, cap, cur, hv, hl, by rw [hb.block g (by simp at hlt; omega)]; exact hg, r⟩
theorem OwnG.lo_ {T : TypeId} {w : World} {lo hi : Nat} {A : Option Addr} {c : Nat} {vs : List Value} (h : OwnG T w lo hi A c vs) : ∀ a, A = some a → lo ≤ a.block := by
  intro a ha
  rcases h.1.2 with ⟨h0, _⟩ | ⟨g, cap, cur, hv, hb, _⟩
  · rw [ha] at h0; cases h0
  · rw [ha] at hv
    injection hv with hv
    injection hv with hv
    subst hv
    exact hb
theorem OwnG.cap {T : TypeId} {w : World} {lo hi : Nat} {A : Option Addr} {c : Nat} {vs : List Value} (h : OwnG T w lo hi A c vs) : vs.length ≤ c ∧ c ≤ maxLen := by
  rcases h.1.2 with ⟨h0, h1⟩ | ⟨g, cap, cur, hv, _, _, hn, hm, _⟩
  · injection h0 with _ _ h2
    subst h2
    exact ⟨by omega, by unfold maxLen; omega⟩
  · injection hv with _ _ h2
    subst h2
    exact ⟨hn, hm⟩
theorem OwnG.none_ {T : TypeId} {w : World} {lo hi : Nat} {A : Option Addr} {c : Nat} {vs : List Value} (h : OwnG T w lo hi A c vs) (hA : A = none) : c = 0 := by
  rcases h.1.2 with ⟨h0, h1⟩ | ⟨g, cap, cur, hv, _⟩
  · injection h0
  · rw [hA] at hv; injection hv with hv; cases hv
/-- A slice literal. -/
theorem OwnG.lit (T : TypeId) (w : World) (vs : List Value) (hl : vs.length ≤ maxLen) : OwnG T (w.alloc (.cells vs.toArray T)) w.heap.size (w.heap.size + 1) (some ⟨w.heap.size, 0, none⟩) vs.length vs := by
  refine ⟨?_, fun a ha => by cases ha; simp⟩
  have := World.ownsRow_lit (base := w.heap.size) (e := T) (size := 1) w vs.toArray vs.length (Nat.le_refl _) hl (by simp)
  simpa using this
theorem OwnG.lit0 (T : TypeId) (w : World) : OwnG T (w.alloc (.cells #[] T)) w.heap.size (w.alloc (.cells #[] T)).heap.size (some ⟨w.heap.size, 0, none⟩) 0 [] := by
  have := OwnG.lit T w [] (by simp)
  simpa using this
theorem OwnG.lit1 (T : TypeId) (w : World) (v : Value) : OwnG T (w.alloc (.cells #[v] T)) w.heap.size (w.heap.size + 1) (some ⟨w.heap.size, 0, none⟩) 1 [v] := by
  have := OwnG.lit T w [v] (by simp [maxLen])
  simpa using this
theorem below_grownG {w w' : World} {lo : Nat} {A : Option Addr} {n c : Nat} (h : w.grownBy w' (Value.ownBlock (.slice A n c))) (hlo : lo ≤ w.heap.size) (hA : ∀ a, A = some a → lo ≤ a.block) : Below lo w w' := by
  refine ⟨h.os, h.tape, h.output, h.size, fun k hk => h.block k (by omega) (fun e => ?_)⟩
  rcases A with _ | ⟨b, o, s⟩
  · simp [Value.ownBlock] at e
  · have := hA _ rfl
    simp [Value.ownBlock] at e this
    omega

/-- append(s, x), s a slice of the call's own, x one element. -/
theorem wl_appG1 {P : Program} {ops : Array Oper} {rest : List Oper} {o : Oper} {a : Act} {Q : Exit → Act → World → Prop} {w : World} {lo hi : Nat} (hgd : o.guard = none) (s x : Operand) (S T : TypeId)
    (ho : o.op = .call { callee := .builtin .append, args := #[s, x], argTypes := #[S, S] }) (hS : P.underlying S = some (.slice T)) (z : Value) (by_ : Nat)
    (hinfo : (P.info? T).map (fun i => (i.zero, i.size, i.bytes)) = some (some z, 1, by_)) (hz : z.cells.size = 1) (hby1 : 1 ≤ by_) (hby : by_ ≤ 32)
    (A : Option Addr) (c : Nat) (vs : List Value) (v : Value) (hv1 : v.oneCell' = true) (m : Nat) (hs : a.eval s = .slice A m c) (hown : OwnG T w lo hi A c vs) (hm : m = vs.length)
    (hx : a.eval x = .slice (some ⟨w.heap.size, 0, none⟩) 1 1) (hlen : m ≤ 1099511627776) (hlo : lo ≤ w.heap.size)
    (h : ∀ A' c' w', OwnG T w' lo w'.heap.size A' c' (vs ++ [v]) → Below lo w w' → wpList P ops Q rest (a.put o.dst (.slice A' (m + 1) c')) w') :
    wpList P ops Q (o :: rest) a (w.alloc (.cells #[v] T)) := by
  subst hm
  obtain ⟨i0, hi0, hz0, hz1, hz2⟩ := info_parts hinfo
  have hbb : (vs.length + 1) * by_ ≤ 140737488355328 := Nat.le_trans (Nat.mul_le_mul_left _ hby) (by omega)
  refine wpList_append_own _ hgd s x S ho lo T i0 z 1 by_ hS hi0 hz0 hz1 hz2 hz (by omega) _ _ _ hs (hown.alloc _).1 _ 1 1 [v] hx rfl (cell_one_new _ _ _) (fun u hu => ?_) (by unfold maxLen; omega) hbb (by simp; omega) ?_
  · simp at hu; subst hu; exact hv1
  · intro v' w' h1 h2 _
    obtain ⟨A', c', rfl, hO⟩ := OwnG.of_row (n := vs.length + 1) (vs := vs ++ [v]) (by simp) h1
    exact h A' c' w' hO (((Below.refl lo w).alloc hlo _).trans (below_grownG h2 (by simp; omega) hown.lo_))

/-- append(s, ys...), s a slice of the call's own. -/
theorem wl_appGs {P : Program} {ops : Array Oper} {rest : List Oper} {o : Oper} {a : Act} {Q : Exit → Act → World → Prop} {w : World} {lo hi : Nat} (hgd : o.guard = none) (s x : Operand) (S T : TypeId)
    (ho : o.op = .call { callee := .builtin .append, args := #[s, x], argTypes := #[S, S] }) (hS : P.underlying S = some (.slice T)) (z : Value) (by_ : Nat)
    (hinfo : (P.info? T).map (fun i => (i.zero, i.size, i.bytes)) = some (some z, 1, by_)) (hz : z.cells.size = 1) (hby1 : 1 ≤ by_) (hby : by_ ≤ 32)
    (A : Option Addr) (c : Nat) (vs : List Value) (m : Nat) (hs : a.eval s = .slice A m c) (hown : OwnG T w lo hi A c vs) (hm : m = vs.length)
    (B : Nat) (A2 : Option Addr) (c2 : Nat) (us : List Value) (hu1 : ∀ u ∈ us, u.oneCell' = true) (m2 : Nat) (hx : a.eval x = .slice A2 m2 c2) (hsl : SlG w B A2 us) (hm2 : m2 = us.length) (hnil : A2 = none → c2 = 0)
    (hlen : m + m2 ≤ 1099511627776) (hlo : lo ≤ w.heap.size)
    (h : ∀ A' c' w', OwnG T w' lo w'.heap.size A' c' (vs ++ us) → Below lo w w' → wpList P ops Q rest (a.put o.dst (.slice A' (m + m2) c')) w') :
    wpList P ops Q (o :: rest) a w := by
  subst hm hm2
  obtain ⟨i0, hi0, hz0, hz1, hz2⟩ := info_parts hinfo
  have hbb : (vs.length + us.length) * by_ ≤ 140737488355328 := Nat.le_trans (Nat.mul_le_mul_left _ hby) (by omega)
  rcases A2 with _ | ad
  · have h0 : us = [] := by
      rcases Nat.eq_zero_or_pos us.length with h0 | h0
      · exact List.eq_nil_of_length_eq_zero h0
      · obtain ⟨b, off, hb, _⟩ := hsl h0
        cases hb
    subst h0
    have hc2 := hnil rfl
    subst hc2
    refine wpList_append_own_none hgd s x S ho lo T i0 1 hS hi0 _ _ _ hs hown.1 hx ?_
    have hh : ∀ a, A = some a → a.block < w.heap.size := fun a ha => by
      subst ha
      exact (hown.1.lt a.block (by simp [Value.ownBlock])).2
    exact h A c w (by rw [List.append_nil]; exact ⟨hown.1, hh⟩) (Below.refl _ _)
  · refine wpList_append_own _ hgd s x S ho lo T i0 z 1 by_ hS hi0 hz0 hz1 hz2 hz (by omega) _ _ _ hs hown.1 ad us.length c2 us hx (by omega) ?_ hu1 (by unfold maxLen; omega) hbb hlo ?_
    · intro j u hu
      have hj : j < us.length := (List.getElem?_eq_some_iff.1 hu).1
      obtain ⟨b, off, hb, _, hc⟩ := hsl (by omega)
      injection hb with hb
      subst hb
      rw [getD_val hj] at hu
      injection hu with hu
      have := hc j hj
      rw [← hu, ← this]
      unfold Addr.add
      split <;> simp_all
    · intro v' w' h1 h2 _
      obtain ⟨A', c', rfl, hO⟩ := OwnG.of_row (n := vs.length + us.length) (vs := vs ++ us) (by simp) h1
      exact h A' c' w' hO (below_grownG h2 hlo hown.lo_)

/-- append(s, x), s an empty slice without room: a new block. -/
theorem wl_append_new {P : Program} {ops : Array Oper} {rest : List Oper} {o : Oper} {a : Act} {Q : Exit → Act → World → Prop} {w : World} (hgd : o.guard = none) (s x : Operand) (S T : TypeId)
    (ho : o.op = .call { callee := .builtin .append, args := #[s, x], argTypes := #[S, S] }) (hS : P.underlying S = some (.slice T)) (z : Value) (by_ : Nat)
    (hinfo : (P.info? T).map (fun i => (i.zero, i.size, i.bytes)) = some (some z, 1, by_)) (hz : z.cells.size = 1) (hby : by_ ≤ 32)
    (b : Addr) (v : Value) (hs : a.eval s = .slice (some b) 0 0) (hx : a.eval x = .slice (some ⟨w.heap.size, 0, none⟩) 1 1)
    (h : ∀ A' c' w', OwnG T w' w.heap.size w'.heap.size A' c' [v] → Below w.heap.size w w' → wpList P ops Q rest (a.put o.dst (.slice A' 1 c')) w') :
    wpList P ops Q (o :: rest) a (w.alloc (.cells #[v] T)) := by
  obtain ⟨i0, hi0, hz0, hz1, hz2⟩ := info_parts hinfo
  have hr := run_append_grow (P := P) (w.alloc (.cells #[v] T)) S o.type T i0 z hS hi0 hz0 b 0 0 [] (by simp) (fun j u hj => by simp at hj) ⟨w.heap.size, 0, none⟩ 1 1 [v] (by simp [hz1]) (cell_one_new _ _ _) (by omega) (by omega)
    (growslice_fits (by omega) (by rw [hz2]; omega))
  simp only [Nat.zero_add] at hr
  refine wpList_plain hgd fun K hK => ?_
  unfold Oper.wp execOp
  simp only [ho, resolve, invoke, builtin, Sem.run_bind, Sem.run_pure, Result.andThen_ok, List.map_toArray, List.map_cons, List.map_nil, hs, hx, hr]
  refine hK _ _ (h _ _ _ ⟨⟨rfl, .inr ⟨_, _, _, rfl, ?_, heap_alloc_new (w.alloc (.cells #[v] T)).drew _, grownCap_ge _ _ _ _, grownCap_le_maxLen _ _ _ _ (by unfold maxLen; omega), ?_, ?_⟩⟩, fun ad had => ?_⟩ ?_)
  · simp
  · have hge := grownCap_ge (w.alloc (.cells #[v] T)) 1 0 T
    simp only [Array.size_append, List.size_toArray, size_zeroCells, hz, List.length_singleton, List.length_nil]
    omega
  · simp
  · injection had with had
    subst had
    simp
  · exact ⟨rfl, rfl, rfl, by simp; omega, fun k hk => (heap_alloc_old (w.alloc (.cells #[v] T)).drew _ (by simp; omega)).trans (heap_alloc_old w _ hk)⟩

/-- A fresh slice with the values vs, of the element type T. -/
def FreshG (T : TypeId) (vs : List Value) (w : World) (e : Ending) (w' : World) : Prop :=
  ∃ A c, e = .returned (.slice A vs.length c) ∧ OwnG T w' w.heap.size w'.heap.size A c vs ∧ Below w.heap.size w w'
theorem freshG_mk {T : TypeId} {vs : List Value} {w w' : World} {A : Option Addr} {n c hi : Nat} (hn : n = vs.length) (h : OwnG T w' w.heap.size hi A c vs) (hi' : hi ≤ w'.heap.size) (hb : Below w.heap.size w w') :
    FreshG T vs w (.returned (.slice A n c)) w' := by
  subst hn
  exact ⟨_, _, rfl, h.mono (Nat.le_refl _) hi', hb⟩

/-- Bytes as values; texts as values. -/
def bytesV (l : List UInt8) : List Value := l.map fun c => .int .u8 c.toNat
def str (l : List UInt8) : ByteArray := ⟨l.toArray⟩
def strV (ls : List (List UInt8)) : List Value := ls.map fun l => .string (str l)
theorem bytesV_length (l : List UInt8) : (bytesV l).length = l.length := by simp [bytesV]
theorem strV_length (l : List (List UInt8)) : (strV l).length = l.length := by simp [strV]
theorem bytesV_one (l : List UInt8) : ∀ u ∈ bytesV l, u.oneCell' = true := by
  intro u hu
  simp [bytesV] at hu
  obtain ⟨c, _, rfl⟩ := hu
  rfl
theorem strV_one (l : List (List UInt8)) : ∀ u ∈ strV l, u.oneCell' = true := by
  intro u hu
  simp [strV] at hu
  obtain ⟨c, _, rfl⟩ := hu
  rfl
theorem strV_get (ls : List (List UInt8)) (k : Nat) (h : k < ls.length) : (strV ls).getD k undef = .string (str (ls.getD k [])) := by
  simp [strV, List.getD_eq_getElem?_getD, h]
theorem strV_append (a b : List (List UInt8)) : strV (a ++ b) = strV a ++ strV b := by simp [strV]
theorem bytesV_cons (c : UInt8) (l : List UInt8) : bytesV (c :: l) = .int .u8 c.toNat :: bytesV l := rfl
theorem str_size (l : List UInt8) : (str l).size = l.length := by simp [str, ByteArray.size]
theorem str_toList (l : List UInt8) : (str l).data.toList = l := rfl
theorem str_of (s : ByteArray) : s = str s.data.toList := by obtain ⟨⟨l⟩⟩ := s; rfl
theorem str_inj {a b : List UInt8} (h : str a = str b) : a = b := by
  have := congrArg (fun s : ByteArray => s.data.toList) h
  exact this

end Go.Proofs.YtplioelpmfeabaaDoor
