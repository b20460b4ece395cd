/- Walks over the laws' helpers for slices of slices of int64: sizes, copies, equality, marks. -/
import Derived.Test.YtablnknjbkacfaaJa
namespace Go.Proofs.Ytablnknjbkacfaa
open Go.RowKit
set_option linter.unusedVariables false
set_option linter.unusedSimpArgs false

theorem infoS : (Try.prog.info? 24).map (fun i => (i.zero, i.size, i.bytes)) = some (some (.slice none 0 0), 1, 24) := by kernel_rfl

theorem szI_ok (A : Option Addr) (c n : Nat) (l : Int) (w : World) (h : (n : Int) ≤ l) (hl : l ≤ 1048576) : Calls Try.prog 13 #[.slice A n c, .int .i64 l] w fun e w' => e = .returned (.int .i64 (l - n)) ∧ w = w' := by
  go_enter Try.func13, Try.ntmps13
  go_wp2
  go_ret
  exact ⟨rfl, rfl⟩
theorem szI_no (A : Option Addr) (c n : Nat) (l : Int) (w : World) (h : l < (n : Int)) (hn : n ≤ maxLen) (h0 : 0 ≤ l) : Calls Try.prog 13 #[.slice A n c, .int .i64 l] w fun e w' => e = .returned (.int .i64 (-1)) ∧ w = w' := by
  unfold maxLen at hn
  go_enter Try.func13, Try.ntmps13
  go_wp2
  go_ret
  exact ⟨rfl, rfl⟩

/-- A number that is not negative. -/
def NonNeg (w : World) (e : Ending) (w' : World) : Prop := ∃ l : Int, 0 ≤ l ∧ e = .returned (.int .i64 l) ∧ w = w'

set_option maxHeartbeats 1000000 in
theorem szSS_ok (A : Option Addr) (c n : Nat) (R : Nat → Row) (w : World) (B : Nat) (h : Top w B A n R) (ht : n + sumL (fun k => (R k).xs) n ≤ 1048576) :
    Calls Try.prog 4 #[.slice A n c, .int .i64 1048576] w (NonNeg w) := by
  have HT := Lib.hid h
  clear h
  obtain ⟨S, hS⟩ : ∃ S : Nat → Nat, S = sumL (fun k => (R k).xs) := ⟨_, rfl⟩
  have S0 : Hid (S 0 = 0) := by rw [hS]; rfl
  have SS : Hid (∀ k, S (k + 1) = S k + (R k).xs.length) := fun k => by rw [hS]; rfl
  have SM : Hid (∀ k, k ≤ n → n + S k ≤ 1048576) := fun k hk => by have := sumL_mono (fun k => (R k).xs) hk; rw [hS]; omega
  have hn : n ≤ 1048576 := by omega
  clear hS ht
  go_enter Try.func4, Try.ntmps4
  go_wp2
  go_loop [1, 5] (fun s i => ∃ (k : Nat) (l : Int), k ≤ n ∧ i = .int .i64 k ∧ s = .int .i64 l ∧ 0 ≤ l ∧ l ≤ 1048576 ∧ Hid (l + n + S k = 1048576)) (fun _ i => n - (intOf i).toNat)
  case atStart => exact ⟨0, _, by omega, rfl, rfl, by omega, by omega, Lib.hid (by rw [S0.out]; omega)⟩
  case round =>
    obtain ⟨k, l, hk, rfl, rfl, hl0, hl1, HL⟩ := hrel
    by_cases hlt : k < n
    · obtain ⟨b, o, rfl, hb, hcell⟩ := HT.out (by omega)
      have e1 := hcell k hlt
      clear hcell
      unfold rowV at e1
      have h2 := SM.out (k + 1) hlt
      have h3 := HL.out
      have h4 := SS.out k
      generalize (R k).xs.length = m at *
      have hm : (m : Int) ≤ l := by omega
      have HL2 : Hid (l - m + n + S (k + 1) = 1048576) := by
        show l - m + n + S (k + 1) = 1048576
        omega
      clear h2 h3 h4
      go_wp2_with fail
      refine (szI_ok _ _ _ _ _ hm hl1).mono ?_
      rintro e w' ⟨rfl, rfl⟩
      go_wp2
      go_round
      case rel => exact ⟨k + 1, _, by omega, by go_num, rfl, by omega, by omega, HL2⟩
      case measure => simp [intOf]; omega
    · go_wp2
      go_ret
      exact ⟨l, hl0, rfl, rfl⟩

set_option maxHeartbeats 1000000 in
theorem szSS_no (A : Option Addr) (c n : Nat) (R : Nat → Row) (w : World) (B : Nat) (h : Top w B A n R) (hR : ∀ k, k < n → (R k).xs.length ≤ maxLen) (hn : n ≤ maxLen) (ht : 1048576 < n + sumL (fun k => (R k).xs) n) :
    Calls Try.prog 4 #[.slice A n c, .int .i64 1048576] w fun e w' => e = .returned (.int .i64 (-1)) ∧ w = w' := by
  have HT := Lib.hid h
  have HR := Lib.hid hR
  clear h hR
  obtain ⟨S, hS⟩ : ∃ S : Nat → Nat, S = sumL (fun k => (R k).xs) := ⟨_, rfl⟩
  have S0 : Hid (S 0 = 0) := by rw [hS]; rfl
  have SS : Hid (∀ k, S (k + 1) = S k + (R k).xs.length) := fun k => by rw [hS]; rfl
  have SN : Hid (1048576 < n + S n) := by rw [hS]; exact ht
  clear hS ht
  unfold maxLen at hn
  by_cases hbig : 1048576 < n
  · go_enter Try.func4, Try.ntmps4
    go_wp2
    go_ret
    exact ⟨rfl, rfl⟩
  go_enter Try.func4, Try.ntmps4
  go_wp2
  go_loop [1, 5] (fun s i => ∃ (k : Nat) (l : Int), k ≤ n ∧ i = .int .i64 k ∧ s = .int .i64 l ∧ 0 ≤ l ∧ l ≤ 1048576 ∧ Hid (l + n + S k = 1048576)) (fun _ i => n - (intOf i).toNat)
  case atStart => exact ⟨0, _, by omega, rfl, rfl, by omega, by omega, Lib.hid (by rw [S0.out]; omega)⟩
  case round =>
    obtain ⟨k, l, hk, rfl, rfl, hl0, hl1, HL⟩ := hrel
    by_cases hlt : k < n
    · obtain ⟨b, o, rfl, hb, hcell⟩ := HT.out (by omega)
      have e1 := hcell k hlt
      clear hcell
      unfold rowV at e1
      have h3 := HL.out
      have h4 := SS.out k
      have h5 := HR.out k hlt
      generalize (R k).xs.length = m at *
      by_cases hm : (m : Int) ≤ l
      · have HL2 : Hid (l - m + n + S (k + 1) = 1048576) := by
          show l - m + n + S (k + 1) = 1048576
          omega
        clear h3 h4 h5
        go_wp2_with fail
        refine (szI_ok _ _ _ _ _ hm hl1).mono ?_
        rintro e w' ⟨rfl, rfl⟩
        go_wp2
        go_round
        case rel => exact ⟨k + 1, _, by omega, by go_num, rfl, by omega, by omega, HL2⟩
        case measure => simp [intOf]; omega
      · have hm' : l < (m : Int) := by omega
        clear h3 h4 hm
        have H5 := Lib.hid h5
        clear h5
        go_wp2_with fail
        refine (szI_no _ _ _ _ _ hm' H5.out hl0).mono ?_
        rintro e w' ⟨rfl, rfl⟩
        go_wp2
        go_ret
        exact ⟨rfl, rfl⟩
    · exfalso
      have h1 := SN.out
      have h2 := HL.out
      obtain rfl : k = n := by omega
      omega

/-- A fresh slice of slices with the numbers f. -/
def FreshSS (n : Nat) (f : Nat → List Int) (w : World) (e : Ending) (w' : World) : Prop :=
  ∃ g R L, e = .returned (.slice (some ⟨g, 0, none⟩) n n) ∧ (∀ k, k < n → (R k).xs = f k) ∧ OwnSS w' w.heap.size w'.heap.size g n R L ∧ Below w.heap.size w w'
/-- The first j rows are copied. -/
structure PartSS (w : World) (g n j : Nat) (f : Nat → List Int) (R : Nat → Row) (L : Nat → Nat) : Prop where
  top : w.rowIs g 24 n (fun k => if k < j then rowV (R k) else .slice none 0 0)
  first : g < L 0
  rise : ∀ k, k < j → L k ≤ L (k + 1)
  last : L j ≤ w.heap.size
  rows : ∀ k, k < j → Own w (L k) (L (k + 1)) (R k).a (R k).c (R k).xs
  same : ∀ k, k < j → (R k).xs = f k
theorem PartSS.lt {w : World} {g n j : Nat} {f : Nat → List Int} {R : Nat → Row} {L : Nat → Nat} (h : PartSS w g n j f R L) : g < w.heap.size := h.top.lt
theorem PartSS.below {w w' : World} {g n j : Nat} {f : Nat → List Int} {R : Nat → Row} {L : Nat → Nat} (h : PartSS w g n j f R L) (hb : Below w.heap.size w w') : PartSS w' g n j f R L := by
  refine ⟨h.top.of_block (hb.block g h.lt), h.first, h.rise, Nat.le_trans h.last hb.size, fun k hk => (h.rows k hk).below hb ?_, h.same⟩
  have := rise_le h.rise (show k + 1 ≤ j by omega) (Nat.le_refl j)
  have := h.last
  omega
theorem PartSS.step {w : World} {g n j m hi : Nat} {f : Nat → List Int} {R : Nat → Row} {L : Nat → Nat} (h : PartSS w g n j f R L) {A : Option Addr} {c : Nat} {xs : List Int}
    (hL : L j ≤ m) (hm : m ≤ hi) (hhi : hi ≤ w.heap.size) (hO : Own w m hi A c xs) (hx : xs = f j) :
    ∃ R' L', PartSS (w.setCell ⟨g, j, none⟩ (.slice A xs.length c)) g n (j + 1) f R' L' := by
  have hg := h.first
  have h0 := rise_le h.rise (Nat.zero_le j) (Nat.le_refl j)
  refine ⟨fun k => if k = j then ⟨A, c, xs⟩ else R k, fun k => if k = j + 1 then hi else L k, ?_, ?_, ?_, ?_, ?_, ?_⟩
  · refine (h.top.set j (.slice A xs.length c)).congr fun k hk => ?_
    by_cases e : k = j
    · subst e
      simp [rowV]
    · by_cases e2 : k < j
      · rw [if_neg e, if_pos e2, if_pos (by omega), if_neg e]
      · rw [if_neg e, if_neg e2, if_neg (by omega)]
  · rw [if_neg (by omega)]; exact hg
  · intro k hk
    by_cases e : k = j
    · subst e
      rw [if_neg (by omega), if_pos rfl]
      omega
    · rw [if_neg (by omega), if_neg (by omega)]
      exact h.rise k (by omega)
  · rw [if_pos rfl]
    simpa [World.setCell] using hhi
  · intro k hk
    by_cases e : k = j
    · subst e
      rw [if_neg (by omega), if_pos rfl, if_pos rfl]
      exact (hO.mono hL (Nat.le_refl _)).setFar (.inl (by simp; omega)) _
    · rw [if_neg (by omega), if_neg (by omega), if_neg e]
      have := rise_le h.rise (Nat.zero_le k) (show k ≤ j by omega)
      exact (h.rows k (by omega)).setFar (.inl (by simp; omega)) _
  · intro k hk
    by_cases e : k = j
    · subst e
      rw [if_pos rfl]
      exact hx
    · rw [if_neg e]
      exact h.same k (by omega)
theorem PartSS.done {w w0 : World} {g n : Nat} {f : Nat → List Int} {R : Nat → Row} {L : Nat → Nat} (h : PartSS w g n n f R L) (hlo : w0.heap.size ≤ g) (hb : Below w0.heap.size w0 w) :
    FreshSS n f w0 (.returned (.slice (some ⟨g, 0, none⟩) n n)) w :=
  ⟨g, R, L, rfl, h.same, ⟨h.top.congr fun k hk => by rw [if_pos hk], hlo, h.first, h.rise, h.last, h.rows⟩, hb⟩

set_option maxHeartbeats 1000000 in
theorem toSS_any (A : Option Addr) (c n : Nat) (R0 : Nat → Row) (w : World) (B1 : Nat) (h : SS w B1 A n R0) (hB : B1 ≤ w.heap.size) (hn : n ≤ 1048576) (hl : ∀ k, k < n → (R0 k).xs.length ≤ 1048576) :
    Calls Try.prog 6 #[.slice A n c] w (FreshSS n (fun k => (R0 k).xs) w) := by
  obtain ⟨i0, hi, hz0, hz1, hz2⟩ := info_parts infoS
  have HS := Lib.hid h
  have HL := Lib.hid hl
  clear h hl
  go_enter Try.func6, Try.ntmps6
  go_wp2_with (at_make; refine wpList_make_row _ rfl (.tmp 6) (.tmp 6) 22 rfl 24 i0 (.slice none 0 0) Try.underlying22 hi hz0 hz1 rfl .i64 .i64 n rfl rfl (by rw [hz2]; omega) (by omega) ?_)
  have P0 : PartSS (w.alloc (.cells (madeCells #[.slice none 0 0] n) 24)) w.heap.size n 0 (fun k => (R0 k).xs) (fun _ => ⟨none, 0, []⟩) (fun _ => w.heap.size + 1) :=
    ⟨(World.rowIs_made w _ n _).congr fun k hk => by simp, by simp, fun k hk => absurd hk (by omega), by simp, fun k hk => absurd hk (by omega), fun k hk => absurd hk (by omega)⟩
  have b0 : Below w.heap.size w (w.alloc (.cells (madeCells #[.slice none 0 0] n) 24)) := (Below.refl _ _).alloc (Nat.le_refl _) _
  generalize w.alloc (.cells (madeCells #[.slice none 0 0] n) 24) = w1 at *
  have HP0 := Lib.hid P0
  clear P0
  go_loopw [4] (fun i wr => ∃ (j : Nat) (R : Nat → Row) (L : Nat → Nat), j ≤ n ∧ i = .int .i64 j ∧ PartSS wr w.heap.size n j (fun k => (R0 k).xs) R L ∧ Below w.heap.size w wr) (fun i _ => n - (intOf i).toNat)
  case atStart => exact ⟨0, _, _, by omega, rfl, HP0.out, b0⟩
  case round =>
    obtain ⟨j, R, L, hj, rfl, hP, hbr⟩ := hrel
    have HP := Lib.hid hP
    have hgz := hP.lt
    clear hP
    by_cases hlt : j < n
    · obtain ⟨b, o, rfl, hb, hcell⟩ := HS.out.top (by omega)
      have e1 : wr.cell? ⟨b, o + j, none⟩ = some (rowV (R0 j)) := (hbr.cell (p := ⟨b, o + j, none⟩) (by exact Nat.lt_of_lt_of_le hb hB)).trans (hcell j hlt)
      clear hcell
      unfold rowV at e1
      have HT := Lib.hid (toInts_any (R0 j).a (R0 j).c (R0 j).xs wr B1 ((HS.out.rows j hlt).sl.below hbr hB) (by omega) (by have := HL.out j hlt; omega))
      have HX : Hid ((R0 j).xs = (fun k => (R0 k).xs) j) := rfl
      generalize (R0 j).xs = xs at HT HX e1
      generalize (R0 j).a = a at HT e1
      generalize (R0 j).c = c0 at HT e1
      generalize hm : xs.length = m at *
      have HM := Lib.hid hm
      clear hm
      go_wp2_with fail
      refine HT.out.mono ?_
      rintro e w' ⟨A', c', rfl, hO, hb'⟩
      have HP' := Lib.hid (HP.out.below hb')
      have hbr' := hbr.trans (hb'.mono hbr.size)
      have e2 := HP'.out.top.cell hlt
      rw [if_neg (by omega)] at e2
      have f2 := HP'.out.top.frozen j
      have HN := Lib.hid (HP'.out.step HP.out.last hb'.size (Nat.le_refl _) hO HX.out)
      rw [HM.out] at HN
      rw [HM.out]
      clear hO hb'
      go_wp2
      go_roundw
      case rel => 
        obtain ⟨R', L', hN⟩ := HN.out
        exact ⟨j + 1, R', L', by omega, by go_num, hN, hbr'.setCell (by simp) _⟩
      case measure => simp [intOf]; omega
    · have hjn : j = n := by omega
      subst hjn
      go_wp2
      go_ret
      exact HP.out.done (Nat.le_refl _) hbr

/-- eqInt64SS on equal slices of slices. -/
def EqSS (w : World) (e : Ending) (w' : World) : Prop := e = .returned (.bool true) ∧ Below w.heap.size w w'
set_option maxHeartbeats 1000000 in
theorem eqSS_any (A A' : Option Addr) (c c' n : Nat) (R R' : Nat → Row) (w : World) (B : Nat) (h : SS w B A n R) (h' : SS w B A' n R') (hB : B ≤ w.heap.size) (hn : n ≤ 1048576) (hx : ∀ k, k < n → (R k).xs = (R' k).xs) (hl : ∀ k, k < n → (R k).xs.length ≤ 1048576) :
    Calls Try.prog 9 #[.slice A n c, .slice A' n c'] w (EqSS w) := by
  have HS := Lib.hid h
  have HS' := Lib.hid h'
  have HL := Lib.hid hl
  have HX := Lib.hid hx
  clear h h' hl hx
  go_enter Try.func9, Try.ntmps9
  go_wp2
  go_loopw [5] (fun i wr => ∃ k : Nat, k ≤ n ∧ i = .int .i64 k ∧ Below w.heap.size w wr) (fun i _ => n - (intOf i).toNat)
  case atStart => exact ⟨0, by omega, rfl, Below.refl _ _⟩
  case round =>
    obtain ⟨k, hk, rfl, hbr⟩ := hrel
    by_cases hlt : k < n
    · obtain ⟨b, o, rfl, hb, hcell⟩ := HS.out.top (by omega)
      obtain ⟨b', o', rfl, hb', hcell'⟩ := HS'.out.top (by omega)
      have e1 : wr.cell? ⟨b, o + k, none⟩ = some (rowV (R k)) := (hbr.cell (p := ⟨b, o + k, none⟩) (by exact Nat.lt_of_lt_of_le hb hB)).trans (hcell k hlt)
      have e2 : wr.cell? ⟨b', o' + k, none⟩ = some (rowV (R' k)) := (hbr.cell (p := ⟨b', o' + k, none⟩) (by exact Nat.lt_of_lt_of_le hb' hB)).trans (hcell' k hlt)
      clear hcell hcell'
      unfold rowV at e1 e2
      have s1 := (HS.out.rows k hlt).sl.below hbr hB
      have s2 := (HS'.out.rows k hlt).sl.below hbr hB
      rw [← HX.out k hlt] at e2 s2
      have HE := Lib.hid (fun (q d d' : Nat) => eqSame_any (R k).a (R' k).a d d' (R k).xs (wr.drewN q) _ _ (s1.drewN q) (s2.drewN q) (by have := HL.out k hlt; omega))
      clear s1 s2
      generalize (R k).xs.length = m at *
      generalize (R k).a = a at *
      generalize (R' k).a = a' at *
      generalize (R k).c = d at *
      generalize (R' k).c = d' at *
      go_wp2
      go_quiet ((go_at_call 8; exact Calls.quiet_of (HE.out _ _ _)))
      go_wp2
      go_roundw
      case rel => exact ⟨k + 1, by omega, by go_num, below_drewN_ hbr⟩
      case measure => simp [intOf]; omega
    · go_wp2
      go_ret
      exact ⟨rfl, hbr⟩

/-- What markInt64SS leaves. -/
def MarkSS (lo hi : Nat) (w : World) (e : Ending) (w' : World) : Prop := ∃ l : Int, 0 ≤ l ∧ e = .returned (.int .i64 l) ∧ Only lo hi w w'
/-- The rows from j on are as they were. -/
structure RestSS (w : World) (g n j : Nat) (R : Nat → Row) (L : Nat → Nat) : Prop where
  top : w.rowIs g 24 n (fun k => rowV (R k))
  rows : ∀ k, j ≤ k → k < n → Own w (L k) (L (k + 1)) (R k).a (R k).c (R k).xs
theorem RestSS.only {w w' : World} {g n j : Nat} {R : Nat → Row} {L : Nat → Nat} (h : RestSS w g n j R L) (hr : ∀ k, k < n → L k ≤ L (k + 1)) (hg : g < L 0) (hj : j < n) (ho : Only (L j) (L (j + 1)) w w') : RestSS w' g n (j + 1) R L := by
  have h0 := rise_le hr (Nat.zero_le j) (show j ≤ n by omega)
  refine ⟨h.top.of_block (ho.block g h.top.lt (by omega)), fun k hk hkn => (h.rows k (by omega) hkn).only ho ?_⟩
  have := rise_le hr hk (show k ≤ n by omega)
  omega
theorem Only.mono {lo hi lo' hi' : Nat} {w w' : World} (h : Only lo hi w w') (h1 : lo' ≤ lo) (h2 : hi ≤ hi') : Only lo' hi' w w' :=
  ⟨h.os, h.tape, h.output, h.size, fun k hk hd => h.block k hk (by omega)⟩

set_option maxHeartbeats 1000000 in
theorem markSS_any (n lo hi g : Nat) (R : Nat → Row) (L : Nat → Nat) (w : World) (h : OwnSS w lo hi g n R L) (hn : n + sumL (fun k => (R k).xs) n ≤ 1048576) :
    Calls Try.prog 10 #[.slice (some ⟨g, 0, none⟩) n n, .int .i64 1] w (MarkSS lo hi w) := by
  obtain ⟨S, hS⟩ : ∃ S : Nat → Nat, S = sumL (fun k => (R k).xs) := ⟨_, rfl⟩
  have S0 : Hid (S 0 = 0) := by rw [hS]; rfl
  have SS : Hid (∀ k, S (k + 1) = S k + (R k).xs.length) := fun k => by rw [hS]; rfl
  have SM : Hid (∀ k, k ≤ n → S k ≤ 1048576) := fun k hk => by have := sumL_mono (fun k => (R k).xs) hk; rw [hS]; omega
  have hn' : n ≤ 1048576 := by omega
  clear hS hn
  have HR := Lib.hid h.rise
  have hg := h.first
  have HG := Lib.hid (And.intro h.first (And.intro h.lo_ h.last))
  have H0 : Hid (RestSS w g n 0 R L) := ⟨h.top, fun k _ hk => h.rows k hk⟩
  clear h hg
  go_enter Try.func10, Try.ntmps10
  go_wp2
  go_loopw [1, 5] (fun s i wr => ∃ (j : Nat) (l : Int), j ≤ n ∧ i = .int .i64 j ∧ s = .int .i64 l ∧ 0 ≤ l ∧ l ≤ 1048577 ∧ Hid (l = 1 + S j) ∧ RestSS wr g n j R L ∧ Only lo hi w wr) (fun _ i _ => n - (intOf i).toNat)
  case atStart => exact ⟨0, _, by omega, rfl, rfl, by omega, by omega, Lib.hid (by rw [S0.out]; rfl), H0.out, Only.refl _ _ _⟩
  case round =>
    obtain ⟨j, l, hj, rfl, rfl, hl0, hl1, HJ, hrest, honly⟩ := hrel
    have HRest := Lib.hid hrest
    clear hrest
    by_cases hlt : j < n
    · have e1 := HRest.out.top.cell hlt
      unfold rowV at e1
      have h1 := SM.out (j + 1) hlt
      have h2 := SS.out j
      have h3 := HJ.out
      have HM := Lib.hid (mark_any (R j).a (R j).c (R j).xs l wr (L j) (L (j + 1)) (HRest.out.rows j (Nat.le_refl _) hlt) (by omega) (by omega) (by omega))
      generalize (R j).xs.length = m at *
      generalize (R j).a = a at *
      generalize (R j).c = d at *
      have HL2 : Hid (l + m = 1 + S (j + 1)) := by
        show l + m = 1 + S (j + 1)
        omega
      have hl2 : l + m ≤ 1048577 := by omega
      clear h1 h2 h3
      go_wp2_with fail
      refine HM.out.mono ?_
      rintro e w' ⟨rfl, -, -, -, -, ho⟩
      have HN := Lib.hid (HRest.out.only HR.out HG.out.1 hlt ho)
      have ho2 : Only lo hi w w' := honly.trans (ho.mono (by
        have := rise_le HR.out (Nat.zero_le j) (show j ≤ n by omega)
        have := HG.out
        omega) (by
        have := rise_le HR.out (show j + 1 ≤ n by omega) (Nat.le_refl n)
        have := HG.out
        omega))
      clear ho
      go_wp2
      go_roundw
      case rel => exact ⟨j + 1, _, by omega, by go_num, rfl, by omega, by omega, HL2, HN.out, ho2⟩
      case measure => simp [intOf]; omega
    · go_wp2
      go_ret
      exact ⟨l, hl0, rfl, honly⟩

end Go.Proofs.Ytablnknjbkacfaa
