/- Walks: the laws' helpers for transfer functions: copied, equal, marked, held, measured. -/
import Derived.Test.YtplioelpmfeabaaDoorVh
namespace Go.Proofs.YtplioelpmfeabaaDoor
open Go.RowKit
set_option linter.unusedVariables false
set_option linter.unusedSimpArgs false

/-- A box that holds two lists. -/
def Bx (w : World) (g : Nat) (A : Option Addr) (n c : Nat) (B : Option Addr) (m d : Nat) : Prop :=
  w.cell? ⟨g, 0, none⟩ = some (.slice A n c) ∧ w.cell? ⟨g, 1, none⟩ = some (.slice B m d)
theorem Bx.below {w w' : World} {b g : Nat} {A : Option Addr} {n c : Nat} {B : Option Addr} {m d : Nat} (h : Bx w g A n c B m d) (hb : Below b w w') (hg : g < b) : Bx w' g A n c B m d :=
  ⟨(hb.cell (p := ⟨g, 0, none⟩) hg).trans h.1, (hb.cell (p := ⟨g, 1, none⟩) hg).trans h.2⟩
theorem Bx.only {w w' : World} {lo hi g : Nat} {A : Option Addr} {n c : Nat} {B : Option Addr} {m d : Nat} (h : Bx w g A n c B m d) (ho : Only lo hi w w') (hg : g < lo ∨ hi ≤ g) (hs : g < w.heap.size) : Bx w' g A n c B m d :=
  ⟨(World.cell?_of_block (a := ⟨g, 0, none⟩) (ho.block g hs hg)).trans h.1, (World.cell?_of_block (a := ⟨g, 1, none⟩) (ho.block g hs hg)).trans h.2⟩
theorem Bx.lt {w : World} {g : Nat} {A : Option Addr} {n c : Nat} {B : Option Addr} {m d : Nat} (h : Bx w g A n c B m d) : g < w.heap.size := World.block_lt_of_cell? w _ h.1
theorem Bx.new (w : World) (A : Option Addr) (n c : Nat) (B : Option Addr) (m d : Nat) (t : TypeId) : Bx (w.alloc (.cells #[.slice A n c, .slice B m d] t)) w.heap.size A n c B m d := by
  constructor <;> go_simp

/-- A box, in every world whose old blocks are as they were. -/
theorem bx1_keep {W w' : World} {g : Nat} {A : Option Addr} {n c : Nat} {B : Option Addr} {m d : Nat} (h : Hid (Bx W g A n c B m d)) (hb : Below W.heap.size W w') :
    Below W.heap.size W w' ∧ w'.cell? ⟨g, 0, none⟩ = some (.slice A n c) ∧ w'.cell? ⟨g, 1, none⟩ = some (.slice B m d) :=
  ⟨hb, (h.out.below hb h.out.lt).1, (h.out.below hb h.out.lt).2⟩
theorem bx1_call {W w0 w' : World} {g : Nat} {A : Option Addr} {n c : Nat} {B : Option Addr} {m d : Nat} (h : Hid (Bx W g A n c B m d))
    (hs : Below W.heap.size W w0 ∧ w0.cell? ⟨g, 0, none⟩ = some (.slice A n c) ∧ w0.cell? ⟨g, 1, none⟩ = some (.slice B m d)) (hb : Below w0.heap.size w0 w') :
    Below W.heap.size W w' ∧ w'.cell? ⟨g, 0, none⟩ = some (.slice A n c) ∧ w'.cell? ⟨g, 1, none⟩ = some (.slice B m d) :=
  bx1_keep h (nxt hs.1 hb hs.1.size)
/-- Two boxes, in every world whose old blocks are as they were. -/
theorem bx2_keep {W w' : World} {g : Nat} {A : Option Addr} {n c : Nat} {B : Option Addr} {m d g2 : Nat} {A2 : Option Addr} {n2 c2 : Nat} {B2 : Option Addr} {m2 d2 : Nat} (h : Hid (Bx W g A n c B m d)) (h' : Hid (Bx W g2 A2 n2 c2 B2 m2 d2)) (hb : Below W.heap.size W w') :
    Below W.heap.size W w' ∧ w'.cell? ⟨g, 0, none⟩ = some (.slice A n c) ∧ w'.cell? ⟨g, 1, none⟩ = some (.slice B m d) ∧ w'.cell? ⟨g2, 0, none⟩ = some (.slice A2 n2 c2) ∧ w'.cell? ⟨g2, 1, none⟩ = some (.slice B2 m2 d2) :=
  ⟨hb, (h.out.below hb h.out.lt).1, (h.out.below hb h.out.lt).2, (h'.out.below hb h'.out.lt).1, (h'.out.below hb h'.out.lt).2⟩
theorem bx2_call {W w0 w' : World} {g : Nat} {A : Option Addr} {n c : Nat} {B : Option Addr} {m d g2 : Nat} {A2 : Option Addr} {n2 c2 : Nat} {B2 : Option Addr} {m2 d2 : Nat} (h : Hid (Bx W g A n c B m d)) (h' : Hid (Bx W g2 A2 n2 c2 B2 m2 d2))
    (hs : Below W.heap.size W w0 ∧ w0.cell? ⟨g, 0, none⟩ = some (.slice A n c) ∧ w0.cell? ⟨g, 1, none⟩ = some (.slice B m d) ∧ w0.cell? ⟨g2, 0, none⟩ = some (.slice A2 n2 c2) ∧ w0.cell? ⟨g2, 1, none⟩ = some (.slice B2 m2 d2)) (hb : Below w0.heap.size w0 w') :
    Below W.heap.size W w' ∧ w'.cell? ⟨g, 0, none⟩ = some (.slice A n c) ∧ w'.cell? ⟨g, 1, none⟩ = some (.slice B m d) ∧ w'.cell? ⟨g2, 0, none⟩ = some (.slice A2 n2 c2) ∧ w'.cell? ⟨g2, 1, none⟩ = some (.slice B2 m2 d2) :=
  bx2_keep h h' (nxt hs.1 hb hs.1.size)
theorem bx2_alloc {W w0 : World} {g : Nat} {A : Option Addr} {n c : Nat} {B : Option Addr} {m d g2 : Nat} {A2 : Option Addr} {n2 c2 : Nat} {B2 : Option Addr} {m2 d2 : Nat} (h : Hid (Bx W g A n c B m d)) (h' : Hid (Bx W g2 A2 n2 c2 B2 m2 d2))
    (hs : Below W.heap.size W w0 ∧ w0.cell? ⟨g, 0, none⟩ = some (.slice A n c) ∧ w0.cell? ⟨g, 1, none⟩ = some (.slice B m d) ∧ w0.cell? ⟨g2, 0, none⟩ = some (.slice A2 n2 c2) ∧ w0.cell? ⟨g2, 1, none⟩ = some (.slice B2 m2 d2)) (o : Obj) :
    Below W.heap.size W (w0.alloc o) ∧ (w0.alloc o).cell? ⟨g, 0, none⟩ = some (.slice A n c) ∧ (w0.alloc o).cell? ⟨g, 1, none⟩ = some (.slice B m d) ∧ (w0.alloc o).cell? ⟨g2, 0, none⟩ = some (.slice A2 n2 c2) ∧ (w0.alloc o).cell? ⟨g2, 1, none⟩ = some (.slice B2 m2 d2) :=
  bx2_keep h h' (hs.1.alloc hs.1.size o)
theorem bx2_set {W w0 : World} {g : Nat} {A : Option Addr} {n c : Nat} {B : Option Addr} {m d g2 : Nat} {A2 : Option Addr} {n2 c2 : Nat} {B2 : Option Addr} {m2 d2 : Nat} (h : Hid (Bx W g A n c B m d)) (h' : Hid (Bx W g2 A2 n2 c2 B2 m2 d2))
    (hs : Below W.heap.size W w0 ∧ w0.cell? ⟨g, 0, none⟩ = some (.slice A n c) ∧ w0.cell? ⟨g, 1, none⟩ = some (.slice B m d) ∧ w0.cell? ⟨g2, 0, none⟩ = some (.slice A2 n2 c2) ∧ w0.cell? ⟨g2, 1, none⟩ = some (.slice B2 m2 d2)) (p : Addr) (v : Value) (hp : W.heap.size ≤ p.block) :
    Below W.heap.size W (w0.setCell p v) ∧ (w0.setCell p v).cell? ⟨g, 0, none⟩ = some (.slice A n c) ∧ (w0.setCell p v).cell? ⟨g, 1, none⟩ = some (.slice B m d) ∧ (w0.setCell p v).cell? ⟨g2, 0, none⟩ = some (.slice A2 n2 c2) ∧ (w0.setCell p v).cell? ⟨g2, 1, none⟩ = some (.slice B2 m2 d2) :=
  bx2_keep h h' (hs.1.setCell hp v)
theorem sz_ok (A : Option Addr) (n c : Nat) (l : Int) (w : World) (hn : (n : Int) ≤ l) (hl : l ≤ 1048576) : Calls Tryd.prog 63 #[.slice A n c, .int .i64 l] w fun e w' => e = .returned (.int .i64 (l - n)) ∧ w = w' := by
  go_enter Tryd.func63, Tryd.ntmps63
  go_wp2
  go_ret
  exact ⟨rfl, rfl⟩
theorem sz_no (A : Option Addr) (n c : Nat) (l : Int) (w : World) (hn : l < (n : Int)) (hl : 0 ≤ l) (hm : n ≤ maxLen) : Calls Tryd.prog 63 #[.slice A n c, .int .i64 l] w fun e w' => e = .returned (.int .i64 (-1)) ∧ w = w' := by
  unfold maxLen at hm
  go_enter Tryd.func63, Tryd.ntmps63
  go_wp2
  go_ret
  exact ⟨rfl, rfl⟩
/-- What is left behind two lists, -1 if they are too long. -/
def szT (l : Int) (n m : Nat) : Int := if (n : Int) + m ≤ l then l - n - m else -1
theorem szT_ok {l : Int} {n m : Nat} (h : (n : Int) + m ≤ l) : szT l n m = l - n - m := if_pos h
theorem szT_no {l : Int} {n m : Nat} (h : ¬ (n : Int) + m ≤ l) : szT l n m = -1 := if_neg h
set_option maxHeartbeats 400000 in
theorem szTransfer_any (A : Option Addr) (n c : Nat) (B : Option Addr) (m d : Nat) (l : Int) (w : World) (h0 : 0 ≤ l) (hl : l ≤ 1048576) (hn : n ≤ maxLen) (hm : m ≤ maxLen) :
    Calls Tryd.prog 35 #[.agg #[.slice A n c, .slice B m d], .int .i64 l] w fun e w' => e = .returned (.int .i64 (szT l n m)) ∧ Below w.heap.size w w' := by
  by_cases h1 : (n : Int) ≤ l
  · by_cases h2 : (n : Int) + m ≤ l
    · have HX := Lib.hid (szT_ok h2)
      go_enter Tryd.func35, Tryd.ntmps35
      go_wp2_with fail
      refine (sz_ok A n c l _ h1 hl).mono ?_
      rintro e w' ⟨rfl, rfl⟩
      go_wp2_with fail
      refine (sz_ok B m d (l - n) _ (by omega) (by omega)).mono ?_
      rintro e w' ⟨rfl, rfl⟩
      go_wp2
      go_ret
      exact ⟨ret_int (by rw [HX.out]), by (repeat (first | exact Below.refl _ _ | assumption | refine Below.setCell ?_ (by (try simp) <;> omega) _ | refine Below.alloc ?_ (by (try simp) <;> omega) _ | refine below_drewN_ ?_ | refine Below.drew ?_))⟩
    · have HX := Lib.hid (szT_no h2)
      go_enter Tryd.func35, Tryd.ntmps35
      go_wp2_with fail
      refine (sz_ok A n c l _ h1 hl).mono ?_
      rintro e w' ⟨rfl, rfl⟩
      go_wp2_with fail
      refine (sz_no B m d (l - n) _ (by omega) (by omega) hm).mono ?_
      rintro e w' ⟨rfl, rfl⟩
      go_wp2
      go_ret
      exact ⟨ret_int (by rw [HX.out]), by (repeat (first | exact Below.refl _ _ | assumption | refine Below.setCell ?_ (by (try simp) <;> omega) _ | refine Below.alloc ?_ (by (try simp) <;> omega) _ | refine below_drewN_ ?_ | refine Below.drew ?_))⟩
  · have HX := Lib.hid (szT_no (l := l) (n := n) (m := m) (by omega))
    go_enter Tryd.func35, Tryd.ntmps35
    go_wp2_with fail
    refine (sz_no A n c l _ (by omega) h0 hn).mono ?_
    rintro e w' ⟨rfl, rfl⟩
    go_wp2
    go_ret
    exact ⟨ret_int (by rw [HX.out]), by (repeat (first | exact Below.refl _ _ | assumption | refine Below.setCell ?_ (by (try simp) <;> omega) _ | refine Below.alloc ?_ (by (try simp) <;> omega) _ | refine below_drewN_ ?_ | refine Below.drew ?_))⟩
/-- A transfer function of two fresh lists. -/
def FreshT (xs ys : List Int) (w : World) (e : Ending) (w' : World) : Prop :=
  ∃ A c B d l1 h1 l2 h2, e = .returned (.agg #[.slice A xs.length c, .slice B ys.length d]) ∧ Own w' l1 h1 A c xs ∧ Own w' l2 h2 B d ys ∧
    w.heap.size ≤ l1 ∧ h1 ≤ w'.heap.size ∧ w.heap.size ≤ l2 ∧ h2 ≤ w'.heap.size ∧ (h1 ≤ l2 ∨ h2 ≤ l1) ∧ Below w.heap.size w w'
theorem FreshT.mk {xs ys : List Int} {w w' : World} {A B : Option Addr} {n m c d l1 h1 l2 h2 : Nat} (hn : n = xs.length) (hm : m = ys.length) (hO : Own w' l1 h1 A c xs) (hO' : Own w' l2 h2 B d ys)
    (e1 : w.heap.size ≤ l1) (e2 : h1 ≤ w'.heap.size) (e3 : w.heap.size ≤ l2) (e4 : h2 ≤ w'.heap.size) (e5 : h1 ≤ l2 ∨ h2 ≤ l1) (hb : Below w.heap.size w w') : FreshT xs ys w (.returned (.agg #[.slice A n c, .slice B m d])) w' := by
  subst hn hm
  exact ⟨_, _, _, _, _, _, _, _, rfl, hO, hO', e1, e2, e3, e4, e5, hb⟩
set_option maxHeartbeats 1000000 in
theorem toTransfer_any (A : Option Addr) (c : Nat) (xs : List Int) (B : Option Addr) (d : Nat) (ys : List Int) (w : World) (B1 : Nat) (h1 : Sl w B1 A xs) (h2 : Sl w B1 B ys) (hB : B1 ≤ w.heap.size) (hl1 : xs.length ≤ 1048576) (hl2 : ys.length ≤ 1048576) :
    Calls Tryd.prog 37 #[.agg #[.slice A xs.length c, .slice B ys.length d]] w (FreshT xs ys w) := by
  have HS1 := Lib.hid h1
  have HS2 := Lib.hid h2
  clear h1 h2
  have T1 : Hid (∀ wx, Below w.heap.size w wx → Calls Tryd.prog 28 #[.slice A xs.length c] wx (Fresh xs wx)) :=
    fun wx hx => toInts_any A c xs wx B1 (HS1.out.below (hx.mono hB) (Nat.le_refl _)) (by have := hx.size; omega) (by omega)
  have T2 : Hid (∀ wx, Below w.heap.size w wx → Calls Tryd.prog 28 #[.slice B ys.length d] wx (Fresh ys wx)) :=
    fun wx hx => toInts_any B d ys wx B1 (HS2.out.below (hx.mono hB) (Nat.le_refl _)) (by have := hx.size; omega) (by omega)
  clear HS1 HS2
  generalize hn : xs.length = n at *
  have HN := Lib.hid hn
  clear hn
  generalize hm : ys.length = m at *
  have HM := Lib.hid hm
  clear hm
  go_enter Tryd.func37, Tryd.ntmps37
  go_wp2_with fail
  refine (T1.out _ (by (repeat (first | exact Below.refl _ _ | assumption | refine Below.setCell ?_ (by (try simp) <;> omega) _ | refine Below.alloc ?_ (by (try simp) <;> omega) _ | refine below_drewN_ ?_ | refine Below.drew ?_)))).mono ?_
  rintro e w1 ⟨A1, c1, rfl, hO1, hb1⟩
  rw [HN.out]
  have hz1 := hb1.size
  simp at hz1
  obtain ⟨hc, hf⟩ := bcell hb1
  have k0 : w1.cell? ⟨w.heap.size, 1, none⟩ = some (.slice B m d) := (hc _ _ (by (first | (simp; done) | omega | (simp; omega)))).trans (by go_simp)
  have k1 : w1.cell? ⟨w.heap.size + 1, 0, none⟩ = some (.slice none 0 0) := (hc _ _ (by (first | (simp; done) | omega | (simp; omega)))).trans (by go_simp)
  have k2 : w1.cell? ⟨w.heap.size + 1, 1, none⟩ = some (.slice none 0 0) := (hc _ _ (by (first | (simp; done) | omega | (simp; omega)))).trans (by go_simp)
  have k3 : w1.cell? ⟨w.heap.size + 1 + 1, 0, none⟩ = some (.slice none 0 0) := (hc _ _ (by (first | (simp; done) | omega | (simp; omega)))).trans (by go_simp)
  have k4 : w1.cell? ⟨w.heap.size + 1 + 1, 1, none⟩ = some (.slice none 0 0) := (hc _ _ (by (first | (simp; done) | omega | (simp; omega)))).trans (by go_simp)
  have f1 : w1.frozen? ⟨w.heap.size + 1, 0, none⟩ = false := (hf _ _ (by (first | (simp; done) | omega | (simp; omega)))).trans (by go_simp)
  have f2 : w1.frozen? ⟨w.heap.size + 1, 1, none⟩ = false := (hf _ _ (by (first | (simp; done) | omega | (simp; omega)))).trans (by go_simp)
  have f3 : w1.frozen? ⟨w.heap.size + 1 + 1, 0, none⟩ = false := (hf _ _ (by (first | (simp; done) | omega | (simp; omega)))).trans (by go_simp)
  have f4 : w1.frozen? ⟨w.heap.size + 1 + 1, 1, none⟩ = false := (hf _ _ (by (first | (simp; done) | omega | (simp; omega)))).trans (by go_simp)
  have hbb : Below w.heap.size w w1 := nxt (by (repeat (first | exact Below.refl _ _ | assumption | refine Below.setCell ?_ (by (try simp) <;> omega) _ | refine Below.alloc ?_ (by (try simp) <;> omega) _ | refine below_drewN_ ?_ | refine Below.drew ?_))) hb1 (by (first | (simp; done) | omega | (simp; omega)))
  clear hc hf hb1
  go_wp2_with fail
  refine (T2.out _ (hbb.setCell (by (first | (simp; done) | omega | (simp; omega))) _)).mono ?_
  rintro e w2 ⟨A2, c2, rfl, hO2, hb2⟩
  rw [HM.out]
  have hz2 := hb2.size
  simp at hz2
  obtain ⟨hc, hf⟩ := bcell hb2
  have p1 : w2.cell? ⟨w.heap.size + 1, 0, none⟩ = some (.slice none 0 0) := (hc _ _ (by (first | (simp; done) | omega | (simp; omega)))).trans (by go_simp)
  have p2 : w2.cell? ⟨w.heap.size + 1, 1, none⟩ = some (.slice none 0 0) := (hc _ _ (by (first | (simp; done) | omega | (simp; omega)))).trans (by go_simp)
  have p3 : w2.cell? ⟨w.heap.size + 1 + 1, 0, none⟩ = some (.slice A1 n c1) := (hc _ _ (by (first | (simp; done) | omega | (simp; omega)))).trans (by go_simp)
  have p4 : w2.cell? ⟨w.heap.size + 1 + 1, 1, none⟩ = some (.slice none 0 0) := (hc _ _ (by (first | (simp; done) | omega | (simp; omega)))).trans (by go_simp)
  have g1 : w2.frozen? ⟨w.heap.size + 1, 0, none⟩ = false := (hf _ _ (by (first | (simp; done) | omega | (simp; omega)))).trans (by go_simp)
  have g2 : w2.frozen? ⟨w.heap.size + 1, 1, none⟩ = false := (hf _ _ (by (first | (simp; done) | omega | (simp; omega)))).trans (by go_simp)
  have g3 : w2.frozen? ⟨w.heap.size + 1 + 1, 0, none⟩ = false := (hf _ _ (by (first | (simp; done) | omega | (simp; omega)))).trans (by go_simp)
  have g4 : w2.frozen? ⟨w.heap.size + 1 + 1, 1, none⟩ = false := (hf _ _ (by (first | (simp; done) | omega | (simp; omega)))).trans (by go_simp)
  have hbb2 : Below w.heap.size w w2 := nxt (hbb.setCell (by (first | (simp; done) | omega | (simp; omega))) _) hb2 (by (first | (simp; done) | omega | (simp; omega)))
  have hO1' : Own w2 (w.heap.size + 1 + 1 + 1) w1.heap.size A1 c1 xs := ((hO1.mono (by (first | (simp; done) | omega | (simp; omega))) (Nat.le_refl _)).setFar (by (first | (simp; done) | omega | (simp; omega))) _).below hb2 (by (first | (simp; done) | omega | (simp; omega)))
  have hO2' : Own w2 w1.heap.size w2.heap.size A2 c2 ys := hO2.mono (by (first | (simp; done) | omega | (simp; omega))) (Nat.le_refl _)
  clear hc hf hb2 hO1 hO2 k0 k1 k2 k3 k4 f1 f2 f3 f4
  go_wp2
  refine bodyPost_ret (v := .agg #[.slice A1 n c1, .slice A2 m c2]) (by simp [results, Tryd.results37, go_sem, p1, p2, p3, p4, g1, g2, g3, g4]) rfl ?_
  exact FreshT.mk HN.out.symm HM.out.symm (((hO1'.setFar (by (first | (simp; done) | omega | (simp; omega))) _).setFar (by (first | (simp; done) | omega | (simp; omega))) _).setFar (by (first | (simp; done) | omega | (simp; omega))) _) (((hO2'.setFar (by (first | (simp; done) | omega | (simp; omega))) _).setFar (by (first | (simp; done) | omega | (simp; omega))) _).setFar (by (first | (simp; done) | omega | (simp; omega))) _)
    (by omega) (by (first | (simp; done) | omega | (simp; omega))) (by omega) (by (first | (simp; done) | omega | (simp; omega))) (.inl (Nat.le_refl _)) (((hbb2.setCell (by (first | (simp; done) | omega | (simp; omega))) _).setCell (by (first | (simp; done) | omega | (simp; omega))) _).setCell (by (first | (simp; done) | omega | (simp; omega))) _)
theorem eqTransfer_any (A : Option Addr) (c : Nat) (xs : List Int) (B : Option Addr) (d : Nat) (ys : List Int) (A' : Option Addr) (c' : Nat) (B' : Option Addr) (d' : Nat) (w : World) (b1 b2 b3 b4 : Nat)
    (h1 : Sl w b1 A xs) (h2 : Sl w b2 B ys) (h3 : Sl w b3 A' xs) (h4 : Sl w b4 B' ys) (z1 : b1 ≤ w.heap.size) (z2 : b2 ≤ w.heap.size) (z3 : b3 ≤ w.heap.size) (z4 : b4 ≤ w.heap.size) (hl1 : xs.length ≤ 1048576) (hl2 : ys.length ≤ 1048576) :
    Calls Tryd.prog 39 #[.agg #[.slice A xs.length c, .slice B ys.length d], .agg #[.slice A' xs.length c', .slice B' ys.length d']] w fun e w' => e = .returned (.bool true) ∧ Below w.heap.size w w' := by
  have E1 : Hid (∀ wx, Below w.heap.size w wx → Calls Tryd.prog 30 #[.slice A xs.length c, .slice A' xs.length c'] wx fun e w' => e = .returned (.bool true) ∧ ∃ n, w' = wx.drewN n) :=
    fun wx hx => eqSame_any A A' c c' xs wx w.heap.size w.heap.size ((h1.mono z1).below hx (Nat.le_refl _)) ((h3.mono z3).below hx (Nat.le_refl _)) (by omega)
  have E2 : Hid (∀ wx, Below w.heap.size w wx → Calls Tryd.prog 30 #[.slice B ys.length d, .slice B' ys.length d'] wx fun e w' => e = .returned (.bool true) ∧ ∃ n, w' = wx.drewN n) :=
    fun wx hx => eqSame_any B B' d d' ys wx w.heap.size w.heap.size ((h2.mono z2).below hx (Nat.le_refl _)) ((h4.mono z4).below hx (Nat.le_refl _)) (by omega)
  clear h1 h2 h3 h4
  generalize xs.length = n at *
  generalize ys.length = m at *
  have hb0 : Below w.heap.size w ((w.alloc (.cells #[.slice A n c, .slice B m d] 52)).alloc (.cells #[.slice A' n c', .slice B' m d'] 52)) := by (repeat (first | exact Below.refl _ _ | assumption | refine Below.setCell ?_ (by (try simp) <;> omega) _ | refine Below.alloc ?_ (by (try simp) <;> omega) _ | refine below_drewN_ ?_ | refine Below.drew ?_))
  go_enter Tryd.func39, Tryd.ntmps39
  go_wp2_with fail
  refine (E1.out _ hb0).mono ?_
  rintro e w1 ⟨rfl, k1, rfl⟩
  go_wp2_with fail
  refine (E2.out _ (below_drewN_ hb0)).mono ?_
  rintro e w2 ⟨rfl, k2, rfl⟩
  go_wp2
  go_ret
  exact ⟨rfl, below_drewN_ hb0⟩
/-- Outside two stretches of blocks the world w' is as w was. -/
structure Only2 (l1 h1 l2 h2 : Nat) (w w' : World) : Prop where
  os : w'.os = w.os
  tape : w'.tape = w.tape
  output : w'.output = w.output
  size : w.heap.size ≤ w'.heap.size
  block : ∀ k, k < w.heap.size → (k < l1 ∨ h1 ≤ k) → (k < l2 ∨ h2 ≤ k) → w'.heap[k]? = w.heap[k]?
theorem Only2.below {l1 h1 l2 h2 B : Nat} {w w' : World} (h : Only2 l1 h1 l2 h2 w w') (e1 : B ≤ l1) (e2 : B ≤ l2) (hs : B ≤ w.heap.size) : Below B w w' := ⟨h.os, h.tape, h.output, h.size, fun k hk => h.block k (by omega) (.inl (by omega)) (.inl (by omega))⟩
theorem Own.only2 {w w' : World} {lo hi l1 h1 l2 h2 : Nat} {A : Option Addr} {c : Nat} {xs : List Int} (h : Own w lo hi A c xs) (ho : Only2 l1 h1 l2 h2 w w') (hd : hi ≤ l1 ∨ h1 ≤ lo) (hd2 : hi ≤ l2 ∨ h2 ≤ lo) : Own w' lo hi A c xs := by
  refine ⟨⟨h.1.1, ?_⟩, h.2⟩
  rcases h.1.2 with h0 | ⟨g, cap, cur, hv, hb, hg, r⟩
  · exact .inl h0
  · have hA : A = some ⟨g, 0, none⟩ := by injection hv
    have hlt := h.2 _ hA
    have hsz : g < w.heap.size := (Array.getElem?_eq_some_iff.1 hg).1
    exact .inr ⟨g, cap, cur, hv, hb, by rw [ho.block g hsz (by simp at hlt; omega) (by simp at hlt; omega)]; exact hg, r⟩
theorem Bx.only2 {w w' : World} {l1 h1 l2 h2 g : Nat} {A : Option Addr} {n c : Nat} {B : Option Addr} {m d : Nat} (h : Bx w g A n c B m d) (ho : Only2 l1 h1 l2 h2 w w') (hg : g < l1 ∨ h1 ≤ g) (hg2 : g < l2 ∨ h2 ≤ g) : Bx w' g A n c B m d :=
  ⟨(World.cell?_of_block (a := ⟨g, 0, none⟩) (ho.block g h.lt hg hg2)).trans h.1, (World.cell?_of_block (a := ⟨g, 1, none⟩) (ho.block g h.lt hg hg2)).trans h.2⟩
/-- What markTransfer leaves. -/
def MarkT (l1 h1 l2 h2 : Nat) (A : Option Addr) (c n : Nat) (B : Option Addr) (d m : Nat) (k : Int) (w : World) (e : Ending) (w' : World) : Prop :=
  e = .returned (.int .i64 (k + n + m)) ∧ ∃ zs us, zs.length = n ∧ us.length = m ∧ Marked k zs ∧ Marked (k + n) us ∧ Own w' l1 h1 A c zs ∧ Own w' l2 h2 B d us ∧ Only2 l1 h1 l2 h2 w w'
theorem markTransfer_any (A : Option Addr) (c : Nat) (xs : List Int) (B : Option Addr) (d : Nat) (ys : List Int) (k : Int) (w : World) (l1 h1 l2 h2 : Nat) (hO : Own w l1 h1 A c xs) (hO' : Own w l2 h2 B d ys) (z1 : h1 ≤ w.heap.size) (z2 : h2 ≤ w.heap.size) (hd : h1 ≤ l2 ∨ h2 ≤ l1)
    (hl1 : xs.length ≤ 1048576) (hl2 : ys.length ≤ 1048576) (hk : 0 ≤ k) (hk' : k ≤ 1000000000) :
    Calls Tryd.prog 42 #[.agg #[.slice A xs.length c, .slice B ys.length d], .int .i64 k] w (MarkT l1 h1 l2 h2 A c xs.length B d ys.length k w) := by
  have hb0 : Below w.heap.size w (w.alloc (.cells #[.slice A xs.length c, .slice B ys.length d] 52)) := by (repeat (first | exact Below.refl _ _ | assumption | refine Below.setCell ?_ (by (try simp) <;> omega) _ | refine Below.alloc ?_ (by (try simp) <;> omega) _ | refine below_drewN_ ?_ | refine Below.drew ?_))
  have hbx := Bx.new w A xs.length c B ys.length d 52
  have hO1 := hO.below hb0 z1
  have hO1' := hO'.below hb0 z2
  have HM1 := Lib.hid (mark_any A c xs k _ l1 h1 hO1 (by omega) hk (by omega))
  have HM2 : Hid (∀ wx, Own wx l2 h2 B d ys → Calls Tryd.prog 33 #[.slice B ys.length d, .int .i64 (k + xs.length)] wx (MarkP l2 h2 B d ys.length (k + xs.length) wx)) :=
    fun wx hx => mark_any B d ys _ wx l2 h2 hx (by omega) (by omega) (by omega)
  have hsz : w.heap.size ≤ (w.alloc (.cells #[.slice A xs.length c, .slice B ys.length d] 52)).heap.size := by simp
  clear hO hO'
  generalize xs.length = n at *
  generalize ys.length = m at *
  go_enter Tryd.func42, Tryd.ntmps42
  go_wp2_with fail
  generalize w.alloc (.cells #[.slice A n c, .slice B m d] 52) = W at *
  refine HM1.out.mono ?_
  rintro e w1 ⟨rfl, zs, hz, hm1, hO2, hon⟩
  have HZ := Lib.hid hz
  have HK := Lib.hid hm1
  have hO2' := hO1'.only hon (by omega)
  obtain ⟨e0, e1⟩ := hbx.only hon (by omega) hbx.lt
  clear hz hm1 hO1 hO1' hbx
  go_wp2_with fail
  refine (HM2.out _ hO2').mono ?_
  rintro e w2 ⟨rfl, us, hu, hm2, hO3, hon2⟩
  have HU := Lib.hid hu
  have HK2 := Lib.hid hm2
  have hO4 := hO2.only hon2 (by omega)
  clear hu hm2 hO2' hO2 e0 e1
  have hon3 : Only2 l1 h1 l2 h2 w w2 := by
    refine ⟨hon2.os.trans (hon.os.trans hb0.os), hon2.tape.trans (hon.tape.trans hb0.tape), hon2.output.trans (hon.output.trans hb0.output), by have := hon.size; have := hon2.size; omega, fun q hq e1 e2 => ?_⟩
    have := hon.size
    exact (hon2.block q (by omega) e2).trans ((hon.block q (by omega) e1).trans (hb0.block q hq))
  go_wp2
  go_ret
  exact ⟨rfl, zs, us, HZ.out, HU.out, HK.out, HK2.out, hO4, hO3, hon3⟩
theorem heldTransfer_any (A : Option Addr) (c : Nat) (zs : List Int) (n : Nat) (hn : zs.length = n) (B : Option Addr) (d : Nat) (us : List Int) (m : Nat) (hm : us.length = m) (k : Int) (w : World) (b1 b2 : Nat) (h1 : Sl w b1 A zs) (h2 : Sl w b2 B us) (z1 : b1 ≤ w.heap.size) (z2 : b2 ≤ w.heap.size)
    (m1 : Marked k zs) (m2 : Marked (k + n) us) (hl1 : n ≤ 1048576) (hl2 : m ≤ 1048576) (hk : 0 ≤ k) (hk' : k ≤ 1000000000) :
    Calls Tryd.prog 43 #[.agg #[.slice A n c, .slice B m d], .int .i64 k] w fun e w' => e = .returned (.int .i64 (k + n + m)) ∧ Below w.heap.size w w' := by
  have hb0 : Below w.heap.size w (w.alloc (.cells #[.slice A n c, .slice B m d] 52)) := by (repeat (first | exact Below.refl _ _ | assumption | refine Below.setCell ?_ (by (try simp) <;> omega) _ | refine Below.alloc ?_ (by (try simp) <;> omega) _ | refine below_drewN_ ?_ | refine Below.drew ?_))
  have H1 := Lib.hid (heldN_any A c zs n hn k _ _ ((h1.mono z1).below hb0 (Nat.le_refl _)) m1 (by omega) hk (by omega))
  have H2 := Lib.hid (heldN_any B d us m hm (k + n) _ _ ((h2.mono z2).below hb0 (Nat.le_refl _)) m2 (by omega) (by omega) (by omega))
  clear h1 h2 m1 m2 hn hm
  go_enter Tryd.func43, Tryd.ntmps43
  go_wp2_with fail
  refine H1.out.mono ?_
  rintro e w1 ⟨rfl, rfl⟩
  go_wp2_with fail
  refine H2.out.mono ?_
  rintro e w1 ⟨rfl, rfl⟩
  go_wp2
  go_ret
  exact ⟨rfl, hb0⟩

end Go.Proofs.YtplioelpmfeabaaDoor
