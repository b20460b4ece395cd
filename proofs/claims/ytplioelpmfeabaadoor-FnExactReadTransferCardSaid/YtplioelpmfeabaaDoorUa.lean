/- The text of a transfer function: plain facts; the walks of the reference. -/
import Derived.Test.YtplioelpmfeabaaDoorTc
import Derived.Test.YtplioelpmfeabaaDoorQl
import Derived.Deep.RegionHeld3
namespace Go.Proofs.YtplioelpmfeabaaDoor
open Go.RowKit
set_option linter.unusedVariables false
set_option linter.unusedSimpArgs false

/-- Numbers, a blank ahead of each. -/
def spaced (xs : List Int) : List UInt8 := (xs.map fun x => 32 :: Lib.itoa x).flatten
theorem spaced_nil : spaced [] = [] := rfl
theorem spaced_cons (x : Int) (r : List Int) : spaced (x :: r) = 32 :: (Lib.itoa x ++ spaced r) := by simp [spaced]
theorem spaced_append (a b : List Int) : spaced (a ++ b) = spaced a ++ spaced b := by simp [spaced]
theorem spaced_step {xs : List Int} {k : Nat} (h : k < xs.length) : spaced (xs.take (k + 1)) = spaced (xs.take k) ++ (32 :: Lib.itoa (xs.getD k 0)) := by
  rw [take_getD h, spaced_append, spaced_cons, spaced_nil]
  simp
theorem spaced_le : ∀ {xs : List Int}, (∀ x ∈ xs, I64 x) → (spaced xs).length ≤ 22 * xs.length
  | [], _ => by rw [spaced_nil]; simp
  | x :: r, h => by
    have h1 := Lib.itoa_length_le x (h x (by simp)).1 (h x (by simp)).2
    have h2 := spaced_le (xs := r) (fun y hy => h y (List.mem_cons_of_mem _ hy))
    rw [spaced_cons]
    simp only [List.length_cons, List.length_append]
    omega
theorem spaced_text : ∀ {xs : List Int}, xs ≠ [] → spaced xs = 32 :: textN xs
  | [], h => absurd rfl h
  | [x], _ => by
    rw [spaced_cons, spaced_nil, List.append_nil]
    show _ = 32 :: joinC 32 [Lib.itoa x]
    rw [joinC_one]
  | x :: y :: r, _ => by
    have h2 := spaced_text (xs := y :: r) (by simp)
    rw [spaced_cons, h2]
    unfold textN
    show _ = 32 :: joinC 32 (Lib.itoa x :: Lib.itoa y :: r.map Lib.itoa)
    rw [joinC_cons]
    rfl
def numC : List UInt8 := [110, 117, 109]
def denC : List UInt8 := [32, 100, 101, 110]
/-- What the reference writes of a transfer function. -/
def trT (xs ys : List Int) : List UInt8 := numC ++ spaced xs ++ denC ++ spaced ys
def transT (xs ys : List Int) : List UInt8 := if trB xs ys = true then trT xs ys else []
theorem transT_yes {xs ys : List Int} (h : trB xs ys = true) : trT xs ys = transT xs ys := (if_pos h).symm
theorem transT_no {xs ys : List Int} (h : trB xs ys = false) : [] = transT xs ys := by unfold transT; rw [h]; rfl

set_option maxRecDepth 100000 in
set_option maxHeartbeats 4000000 in
theorem l05Text_any (g : Nat) (A : Option Addr) (c : Nat) (xs : List Int) (B : Option Addr) (d : Nat) (ys : List Int) (w : World) (hx : Bx w g A xs.length c B ys.length d) (h : Arg w A c xs) (h2 : Arg w B d ys) (l1 : xs.length ≤ 65) (l2 : ys.length ≤ 65) :
    Calls Tryd.prog 65 #[.pointer (some ⟨g, 0, none⟩)] w (StrIs (trT xs ys) w) := by
  have HS := Lib.hid h.sl
  have HS2 := Lib.hid h2.sl
  have hg := hx.lt
  have HI : Hid (∀ k, I64 (xs.getD k 0)) := fun k => by
    rcases Nat.lt_or_ge k xs.length with hk | hk
    · have := h.i64 xs[k] (List.getElem_mem hk)
      simpa [List.getD_eq_getElem?_getD, hk] using this
    · rw [List.getD_eq_getElem?_getD, List.getElem?_eq_none hk]; exact ⟨by decide, by decide⟩
  have HJ : Hid (∀ k, I64 (ys.getD k 0)) := fun k => by
    rcases Nat.lt_or_ge k ys.length with hk | hk
    · have := h2.i64 ys[k] (List.getElem_mem hk)
      simpa [List.getD_eq_getElem?_getD, hk] using this
    · rw [List.getD_eq_getElem?_getD, List.getElem?_eq_none hk]; exact ⟨by decide, by decide⟩
  have hsx : (spaced xs).length ≤ 1430 := by have := spaced_le h.i64; omega
  have HT : Hid (∀ k, k ≤ xs.length → (str (numC ++ spaced (xs.take k))).size ≤ 1433) := fun k hk => by
    rw [str_size]
    have := spaced_le (xs := xs.take k) (fun x hx => h.i64 x (List.mem_of_mem_take hx))
    rw [List.length_take] at this
    simp [numC]
    omega
  have HU : Hid (∀ k, k ≤ ys.length → (str (numC ++ spaced xs ++ denC ++ spaced (ys.take k))).size ≤ 2867) := fun k hk => by
    rw [str_size]
    have := spaced_le (xs := ys.take k) (fun x hx => h2.i64 x (List.mem_of_mem_take hx))
    rw [List.length_take] at this
    simp [numC, denC]
    omega
  have H0 : Hid (numC ++ spaced (xs.take 0) = numC) := by show _ = _; rw [List.take_zero]; rfl
  have HM : Hid (str (numC ++ spaced (xs.take xs.length)) ++ str denC = str (numC ++ spaced xs ++ denC ++ spaced (ys.take 0))) := by
    show _ = _; rw [List.take_length, List.take_zero, str_append, spaced_nil, List.append_nil]
  have HE : Hid (numC ++ spaced xs ++ denC ++ spaced (ys.take ys.length) = trT xs ys) := by show _ = _; rw [List.take_length]; rfl
  have HST : Hid (∀ k, k < xs.length → str (numC ++ spaced (xs.take k)) ++ (str [32] ++ str (Lib.itoa (xs.getD k 0))) = str (numC ++ spaced (xs.take (k + 1)))) := fun k hk => by
    rw [spaced_step hk, str_append, str_append]; simp
  have HSU : Hid (∀ k, k < ys.length → str (numC ++ spaced xs ++ denC ++ spaced (ys.take k)) ++ (str [32] ++ str (Lib.itoa (ys.getD k 0))) = str (numC ++ spaced xs ++ denC ++ spaced (ys.take (k + 1)))) := fun k hk => by
    rw [spaced_step hk, str_append, str_append]; simp
  obtain ⟨e0, e1⟩ := hx
  clear h h2 hsx
  obtain ⟨T, hT⟩ : ∃ T : Nat → List UInt8, T = fun k => numC ++ spaced (xs.take k) := ⟨_, rfl⟩
  obtain ⟨U, hU⟩ : ∃ U : Nat → List UInt8, U = fun k => numC ++ spaced xs ++ denC ++ spaced (ys.take k) := ⟨_, rfl⟩
  obtain ⟨f, hf⟩ : ∃ f : Nat → Int, f = fun k => xs.getD k 0 := ⟨_, rfl⟩
  obtain ⟨q, hq⟩ : ∃ q : Nat → Int, q = fun k => ys.getD k 0 := ⟨_, rfl⟩
  have HSl : Hid (0 < xs.length → ∃ b off, A = some ⟨b, off, none⟩ ∧ b < w.heap.size ∧ ∀ k, k < xs.length → w.cell? ⟨b, off + k, none⟩ = some (.int .i64 (f k))) := by rw [hf]; exact HS.out
  have HSm : Hid (0 < ys.length → ∃ b off, B = some ⟨b, off, none⟩ ∧ b < w.heap.size ∧ ∀ k, k < ys.length → w.cell? ⟨b, off + k, none⟩ = some (.int .i64 (q k))) := by rw [hq]; exact HS2.out
  clear HS HS2
  simp only [← congrFun hT _, ← congrFun hU _, ← congrFun hf _, ← congrFun hq _] at HI HJ HT HU H0 HM HE HST HSU
  clear hT hf hU hq
  generalize trT xs ys = r at *
  generalize xs.length = n at *
  generalize ys.length = m at *
  go_enter Tryd.func65, Tryd.ntmps65
  go_wp2
  go_loopw [3, 4] (fun v i wr => ∃ k : Nat, k ≤ n ∧ i = .int .i64 k ∧ v = .string (str (T k)) ∧ Below w.heap.size w wr) (fun _ i _ => n - (intOf i).toNat)
  case atStart => exact ⟨0, by omega, rfl, by rw [H0.out]; rfl, Below.refl _ _⟩
  case round =>
    obtain ⟨k, hk, rfl, rfl, hbr⟩ := hrel
    have a0 : wr.cell? ⟨g, 0, none⟩ = some (.slice A n c) := (hbr.cell (p := ⟨g, 0, none⟩) hg).trans e0
    have a1 : wr.cell? ⟨g, 1, none⟩ = some (.slice B m d) := (hbr.cell (p := ⟨g, 1, none⟩) hg).trans e1
    by_cases hlt : k < n
    · obtain ⟨b, o, rfl, hb, hcell⟩ := HSl.out (by omega)
      have k1 : wr.cell? ⟨b, o + k, none⟩ = some (.int .i64 (f k)) := (hbr.cell (p := ⟨b, o + k, none⟩) hb).trans (hcell k hlt)
      clear hcell
      have hi := Lib.hid (HI.out k)
      have hq2 : (str (Lib.itoa (f k))).size ≤ 21 := by rw [str_size]; exact Lib.itoa_length_le _ hi.out.1 hi.out.2
      have hq1 := HT.out k hk
      have HN := Lib.hid (HST.out k hlt)
      generalize f k = x at *
      obtain ⟨p, hp⟩ : ∃ p, p = str (T k) := ⟨_, rfl⟩
      rw [← hp] at hq1 HN ⊢
      clear hp
      go_wp2_with fail
      refine (l01Dec_any x wr hi.out).mono ?_
      rintro e w1 ⟨rfl, hb1⟩
      have hbr' := hbr.trans (hb1.mono hbr.size)
      clear hb1
      generalize str (Lib.itoa x) = y at *
      have hps : (str [32] ++ y).size ≤ 22 := by rw [ByteArray.size_append, str_size]; simp; omega
      unfold str at hps
      go_wp2
      go_roundw
      case rel => exact ⟨k + 1, by omega, by go_num, by rw [← HN.out]; rfl, hbr'⟩
      case measure => simp [intOf]; omega
    · have hkn : k = n := by omega
      subst hkn
      have hq1 := HT.out k hk
      have HN := Lib.hid HM.out
      obtain ⟨p, hp⟩ : ∃ p, p = str (T k) := ⟨_, rfl⟩
      rw [← hp] at hq1 HN ⊢
      clear hp
      go_wp2
      go_loopw [3, 5] (fun v i wx => ∃ j : Nat, j ≤ m ∧ i = .int .i64 j ∧ v = .string (str (U j)) ∧ Below w.heap.size w wx) (fun _ i _ => m - (intOf i).toNat)
      case atStart => exact ⟨0, by omega, rfl, by rw [← HN.out]; rfl, hbr⟩
      case round =>
        obtain ⟨j, hj, rfl, rfl, hbx⟩ := hrel
        have b0 : wr.cell? ⟨g, 0, none⟩ = some (.slice A k c) := (hbx.cell (p := ⟨g, 0, none⟩) hg).trans e0
        have b1 : wr.cell? ⟨g, 1, none⟩ = some (.slice B m d) := (hbx.cell (p := ⟨g, 1, none⟩) hg).trans e1
        by_cases hlt2 : j < m
        · obtain ⟨b, o, rfl, hb, hcell⟩ := HSm.out (by omega)
          have k1 : wr.cell? ⟨b, o + j, none⟩ = some (.int .i64 (q j)) := (hbx.cell (p := ⟨b, o + j, none⟩) hb).trans (hcell j hlt2)
          clear hcell
          have hi := Lib.hid (HJ.out j)
          have hq2 : (str (Lib.itoa (q j))).size ≤ 21 := by rw [str_size]; exact Lib.itoa_length_le _ hi.out.1 hi.out.2
          have hq3 := HU.out j hj
          have HN2 := Lib.hid (HSU.out j hlt2)
          generalize q j = x at *
          obtain ⟨p2, hp2⟩ : ∃ p2, p2 = str (U j) := ⟨_, rfl⟩
          rw [← hp2] at hq3 HN2 ⊢
          clear hp2
          go_wp2_with fail
          refine (l01Dec_any x wr hi.out).mono ?_
          rintro e w1 ⟨rfl, hb1⟩
          have hbx' := hbx.trans (hb1.mono hbx.size)
          clear hb1
          generalize str (Lib.itoa x) = y at *
          have hps : (str [32] ++ y).size ≤ 22 := by rw [ByteArray.size_append, str_size]; simp; omega
          unfold str at hps
          go_wp2
          go_roundw
          case rel => exact ⟨j + 1, by omega, by go_num, by rw [← HN2.out]; rfl, hbx'⟩
          case measure => simp [intOf]; omega
        · have hjn : j = m := by omega
          subst hjn
          go_wp2
          go_ret
          exact ⟨ret_str (by rw [HE.out]), hbx⟩

theorem specTransferText_any (A : Option Addr) (c : Nat) (xs : List Int) (B : Option Addr) (d : Nat) (ys : List Int) (w : World) (h : Arg w A c xs) (h2 : Arg w B d ys) :
    Calls Tryd.prog 36 #[.agg #[.slice A xs.length c, .slice B ys.length d]] w (StrIs (transT xs ys) w) := by
  have HA := Lib.hid (l05Ok_any w.heap.size A c xs B d ys _ (Bx.new w A xs.length c B ys.length d 52) (h.alloc _) (h2.alloc _))
  have hb0 : Below w.heap.size w (w.alloc (.cells #[.slice A xs.length c, .slice B ys.length d] 52)) := by (repeat (first | exact Below.refl _ _ | assumption | refine Below.setCell ?_ (by (try simp) <;> omega) _ | refine Below.alloc ?_ (by (try simp) <;> omega) _ | refine below_drewN_ ?_ | refine Below.drew ?_))
  cases ht : trB xs ys
  · have HR := Lib.hid (transT_no ht)
    rw [ht] at HA
    clear h h2 ht
    generalize transT xs ys = r at *
    generalize xs.length = n at *
    generalize ys.length = m at *
    go_enter Tryd.func36, Tryd.ntmps36
    go_wp2_with fail
    refine HA.out.mono ?_
    rintro e w' ⟨rfl, rfl⟩
    go_wp2
    go_ret
    exact ⟨ret_str (by rw [← HR.out]; rfl), hb0⟩
  · have HR := Lib.hid (transT_yes ht)
    obtain ⟨t1, t2, -⟩ := trB_inv ht
    have HT := Lib.hid (l05Text_any w.heap.size A c xs B d ys _ (Bx.new w A xs.length c B ys.length d 52) (h.alloc _) (h2.alloc _) (pol_len t1).2 (pol_len t2).2)
    rw [ht] at HA
    clear h h2 ht t1 t2
    generalize transT xs ys = r at *
    generalize trT xs ys = q at *
    generalize xs.length = n at *
    generalize ys.length = m at *
    go_enter Tryd.func36, Tryd.ntmps36
    go_wp2_with fail
    refine HA.out.mono ?_
    rintro e w' ⟨rfl, rfl⟩
    go_wp2_with fail
    refine HT.out.mono ?_
    rintro e w1 ⟨rfl, hb1⟩
    go_wp2
    go_ret
    exact ⟨ret_str (by rw [HR.out]), nxt hb0 hb1 hb0.size⟩

end Go.Proofs.YtplioelpmfeabaaDoor
