/- The walk of the program's ReadFrac. -/
import Derived.Test.YtplioelpmfeabaaDoorQs
import Derived.Test.YtplioelpmfeabaaDoorQh
namespace Go.Proofs.YtplioelpmfeabaaDoor
open Go.RowKit
set_option linter.unusedVariables false
set_option linter.unusedSimpArgs false

theorem fracRead_two {l p q : List UInt8} {n m : Int} {b1 b2 : Bool} (hc : Lib.cut l [47] = (p, q, true)) (h1 : readN p = (n, b1)) (h2 : readN q = (m, b2)) :
    fracRead l = if b1 = true ∧ b2 = true ∧ okF n m = true ∧ fracT n m = l then (n, m, true) else (0, 0, false) := by
  unfold fracRead frNum frDen
  rw [hc]
  simp only [if_true]
  rw [h1, h2]
theorem fracRead_one {l p q : List UInt8} {n : Int} {b1 : Bool} (hc : Lib.cut l [47] = (p, q, false)) (h1 : readN p = (n, b1)) :
    fracRead l = if b1 = true ∧ true = true ∧ okF n 1 = true ∧ fracT n 1 = l then (n, 1, true) else (0, 0, false) := by
  unfold fracRead frNum frDen
  rw [hc]
  simp only [Bool.false_eq_true, if_false]
  rw [h1]
theorem cut_le {l s p q : List UInt8} {b : Bool} (h : Lib.cut l s = (p, q, b)) : p.length ≤ l.length ∧ q.length ≤ l.length := by
  unfold Lib.cut at h
  split at h
  · injection h with h1 h2
    injection h2 with h2 h3
    subst h1 h2
    exact ⟨by rw [List.length_take]; omega, by rw [List.length_drop]; omega⟩
  · injection h with h1 h2
    injection h2 with h2 h3
    subst h1 h2
    exact ⟨Nat.le_refl _, by simp⟩

set_option maxRecDepth 100000 in
set_option maxHeartbeats 4000000 in
theorem implReadFrac_any (s : ByteArray) (w : World) (hs : s.size ≤ 1048576) (B : Nat) (hE : RdEnv B w) (hM : MaxEnv B w) (hB : B ≤ w.heap.size) : Calls Tryd.prog 25 #[.string s] w (FracB (fracRead s.data.toList) w) := by
  obtain ⟨l, hl⟩ : ∃ l, l = s.data.toList := ⟨_, rfl⟩
  rw [← hl]
  have HL := Lib.hid hl
  cases hcut : Lib.cut l [47] with
  | mk p qf =>
  cases qf with
  | mk q fo =>
  have hle := cut_le hcut
  have hll : l.length ≤ 1048576 := by rw [hl, ← Lib.size_eq]; exact hs
  have HC : Hid (∀ w', Below w.heap.size w w' → Calls Tryd.prog 56 #[.string s, .string ⟨#[47]⟩] w' fun e w'' => e = .returned (.tuple #[.string (str p), .string (str q), .bool fo]) ∧ Below w'.heap.size w' w'') := fun w' hb => by
    obtain ⟨m, hm⟩ := (hM.below (hb.mono hB)).cell
    have h := Tryd.strings_Cut s ⟨#[47]⟩ m w' (by omega) hm
    have e1 : Lib.cut s.data.toList (⟨#[47]⟩ : ByteArray).data.toList = (p, q, fo) := by rw [← hl]; exact hcut
    rw [e1] at h
    refine h.mono ?_
    rintro e w'' ⟨rfl, k, rfl⟩
    exact ⟨rfl, below_of_drewN _ k⟩
  have TB : Hid (∀ w', Below w.heap.size w w' → Lib.TabBelow Tryd.prog B w' "internal/strconv.uint64pow10" .u64 Lib.pow10Tab) := fun w' hb => hE.pow.on (hb.mono hB)
  cases h1 : readN p with
  | mk n b1 =>
  have RD1 : Hid (∀ w', Below w.heap.size w w' → Calls Tryd.prog 15 #[.string (str p)] w' (NumB (n, b1) w')) := fun w' hb => by
    have := implReadDecimal_any (str p) w' (by rw [str_size]; omega) B (hE.below (hb.mono hB)) (Nat.le_trans hB hb.size)
    rwa [show (str p).data.toList = p from rfl, h1] at this
  have bn := readN_bound h1
  obtain ⟨bn1, bn2⟩ := bn
  have hIn : I64 n := ⟨by omega, by omega⟩
  cases fo
  · have HR := Lib.hid (fracRead_one hcut h1)
    clear hcut h1 hE hM hl
    generalize fracRead l = r at *
    generalize str p = sp at *
    generalize str q = sq at *
    have HKE : Hid (∀ b, okF n 1 = b → ∀ w', Calls Tryd.prog 54 #[.agg #[.int .i64 n, .int .i64 1]] w' fun e w'' => e = .returned (.bool b) ∧ Below w'.heap.size w' w'') := fun b hb => isFrac_is n 1 hIn ⟨by omega, by omega⟩ b hb
    have hb0 : Below w.heap.size w (w.alloc (.cells #[.int .i64 0, .int .i64 0] 34)) := by (repeat (first | exact Below.refl _ _ | assumption | refine Below.setCell ?_ (by (try simp) <;> omega) _ | refine Below.alloc ?_ (by (try simp) <;> omega) _ | refine below_drewN_ ?_ | refine Below.drew ?_))
    have r0 : (w.alloc (.cells #[.int .i64 0, .int .i64 0] 34)).cell? ⟨w.heap.size, 0, none⟩ = some (.int .i64 0) := by go_simp
    have r1 : (w.alloc (.cells #[.int .i64 0, .int .i64 0] 34)).cell? ⟨w.heap.size, 1, none⟩ = some (.int .i64 0) := by go_simp
    have q0 : (w.alloc (.cells #[.int .i64 0, .int .i64 0] 34)).frozen? ⟨w.heap.size, 0, none⟩ = false := by go_simp
    have q1 : (w.alloc (.cells #[.int .i64 0, .int .i64 0] 34)).frozen? ⟨w.heap.size, 1, none⟩ = false := by go_simp
    have HZ : w.heap.size < (w.alloc (.cells #[.int .i64 0, .int .i64 0] 34)).heap.size := by simp
    go_enter Tryd.func25, Tryd.ntmps25
    go_wp2_with fail
    generalize w.alloc (.cells #[.int .i64 0, .int .i64 0] 34) = W0 at *
    refine (HC.out _ hb0).mono ?_
    rintro e w1 ⟨rfl, hb1⟩
    obtain ⟨hc1, hf1⟩ := bcell hb1
    have hz1 := hb1.size
    have hb := nxt hb0 hb1 hb0.size
    rw [← hc1 _ _ (by omega)] at r0 r1
    rw [← hf1 _ _ (by omega)] at q0 q1
    clear hb1 hc1 hf1 hb0
    go_wp2_with fail
    refine (RD1.out _ hb).mono ?_
    rintro e w2 ⟨rfl, hb2⟩
    obtain ⟨hc2, hf2⟩ := bcell hb2
    have hz2 := hb2.size
    replace hb := nxt hb hb2 hb.size
    rw [← hc2 _ _ (by omega)] at r0 r1
    rw [← hf2 _ _ (by omega)] at q0 q1
    clear hb2 hc2 hf2 HC RD1
    have HZ2 : w.heap.size < w2.heap.size := by omega
    clear hz1 hz2 HZ
    have hb3 : Below w.heap.size w (w2.alloc (.cells #[.int .i64 n, .int .i64 1] 34)) := hb.alloc hb.size _
    have s0 : (w2.alloc (.cells #[.int .i64 n, .int .i64 1] 34)).cell? ⟨w2.heap.size, 0, none⟩ = some (.int .i64 n) := by go_simp
    have s1 : (w2.alloc (.cells #[.int .i64 n, .int .i64 1] 34)).cell? ⟨w2.heap.size, 1, none⟩ = some (.int .i64 1) := by go_simp
    have v0 : (w2.alloc (.cells #[.int .i64 n, .int .i64 1] 34)).frozen? ⟨w2.heap.size, 0, none⟩ = false := by go_simp
    have v1 : (w2.alloc (.cells #[.int .i64 n, .int .i64 1] 34)).frozen? ⟨w2.heap.size, 1, none⟩ = false := by go_simp
    have s2 : (w2.alloc (.cells #[.int .i64 n, .int .i64 1] 34)).cell? ⟨w.heap.size, 0, none⟩ = some (.int .i64 0) := by go_simp
    have s3 : (w2.alloc (.cells #[.int .i64 n, .int .i64 1] 34)).cell? ⟨w.heap.size, 1, none⟩ = some (.int .i64 0) := by go_simp
    have v2 : (w2.alloc (.cells #[.int .i64 n, .int .i64 1] 34)).frozen? ⟨w.heap.size, 0, none⟩ = false := by go_simp
    have v3 : (w2.alloc (.cells #[.int .i64 n, .int .i64 1] 34)).frozen? ⟨w.heap.size, 1, none⟩ = false := by go_simp
    have HZ3 : w2.heap.size < (w2.alloc (.cells #[.int .i64 n, .int .i64 1] 34)).heap.size := by simp
    cases b1
    · have HR2 : Hid (r = (0, 0, false)) := by show _ = _; rw [HR.out]; simp
      go_wp2
      have z0 : (((w2.setCell ⟨w.heap.size, 0, none⟩ (.int .i64 0)).setCell ⟨w.heap.size, 1, none⟩ (.int .i64 0)).alloc (.cells #[.int .i64 n, .int .i64 1] 34)).cell? ⟨w.heap.size, 0, none⟩ = some (.int .i64 0) := by
        rw [World.cell?_alloc_lt _ _ _ (by simp; exact HZ2)]; go_simp
      have z1 : (((w2.setCell ⟨w.heap.size, 0, none⟩ (.int .i64 0)).setCell ⟨w.heap.size, 1, none⟩ (.int .i64 0)).alloc (.cells #[.int .i64 n, .int .i64 1] 34)).cell? ⟨w.heap.size, 1, none⟩ = some (.int .i64 0) := by
        rw [World.cell?_alloc_lt _ _ _ (by simp; exact HZ2)]; go_simp
      exact bodyPost_ret (v := .tuple #[.agg #[.int .i64 0, .int .i64 0], .bool false]) (by simp [results, Tryd.results25, go_sem, z0, z1]) rfl (ret_fracB HR2.out (by exact ((hb.setCell (Nat.le_refl _) _).setCell (Nat.le_refl _) _).alloc (by simp; exact Nat.le_of_lt HZ2) _))
    · obtain ⟨okb, hok⟩ : ∃ b, okF n 1 = b := ⟨_, rfl⟩
      have HOK := Lib.hid hok
      clear hok
      go_wp2_with fail
      have hok := HOK.out
      clear HOK
      generalize w2.alloc (.cells #[.int .i64 n, .int .i64 1] 34) = W2 at *
      refine (HKE.out okb hok _).mono ?_
      rintro e w5 ⟨rfl, hb5⟩
      obtain ⟨hc5, hf5⟩ := bcell hb5
      have hz5 := hb5.size
      replace hb3 := nxt hb3 hb5 hb3.size
      rw [← hc5 _ _ (by omega)] at s0 s1 s2 s3
      rw [← hf5 _ _ (by omega)] at v2 v3
      clear hb5 hc5 hf5
      cases okb
      · have HR2 : Hid (r = (0, 0, false)) := by show _ = _; rw [HR.out]; simp [hok]
        clear hok
        go_wp2
        exact bodyPost_ret (v := .tuple #[.agg #[.int .i64 0, .int .i64 0], .bool false]) (by simp [results, Tryd.results25, go_sem, s2, s3, v2, v3]) rfl (ret_fracB HR2.out (by (first | exact hb3 | exact hb3.setCell (by first | exact Nat.le_refl _ | exact Nat.le_of_lt HZ2) _ | exact (hb3.setCell (by first | exact Nat.le_refl _ | exact Nat.le_of_lt HZ2) _).setCell (by first | exact Nat.le_refl _ | exact Nat.le_of_lt HZ2) _ | exact ((hb3.setCell (by first | exact Nat.le_refl _ | exact Nat.le_of_lt HZ2) _).setCell (by first | exact Nat.le_refl _ | exact Nat.le_of_lt HZ2) _).setCell (by first | exact Nat.le_refl _ | exact Nat.le_of_lt HZ2) _)))
      · go_wp2_with fail
        refine (implFracText_any n 1 _ hIn ⟨by omega, by omega⟩ B (TB.out _ hb3) (Nat.le_trans hB hb3.size)).mono ?_
        rintro e w6 ⟨rfl, hb6⟩
        obtain ⟨hc6, hf6⟩ := bcell hb6
        have hz6 := hb6.size
        replace hb3 := nxt hb3 hb6 hb3.size
        rw [← hc6 _ _ (by omega)] at s0 s1 s2 s3
        rw [← hf6 _ _ (by omega)] at v2 v3
        clear hb6 hc6 hf6
        by_cases hq : fracT n 1 = l
        · have HR2 : Hid (r = (n, 1, true)) := by show _ = _; rw [HR.out]; simp [hok, hq]
          have hqs : str (fracT n 1) = s := by rw [hq, HL.out]; exact (str_of s).symm
          rw [hqs]
          clear hq hqs hok
          go_wp2
          exact bodyPost_ret (v := .tuple #[.agg #[.int .i64 n, .int .i64 1], .bool true]) (by simp [results, Tryd.results25, go_sem, s2, s3, v2, v3]) rfl (ret_fracB HR2.out (by (first | exact hb3 | exact hb3.setCell (by first | exact Nat.le_refl _ | exact Nat.le_of_lt HZ2) _ | exact (hb3.setCell (by first | exact Nat.le_refl _ | exact Nat.le_of_lt HZ2) _).setCell (by first | exact Nat.le_refl _ | exact Nat.le_of_lt HZ2) _ | exact ((hb3.setCell (by first | exact Nat.le_refl _ | exact Nat.le_of_lt HZ2) _).setCell (by first | exact Nat.le_refl _ | exact Nat.le_of_lt HZ2) _).setCell (by first | exact Nat.le_refl _ | exact Nat.le_of_lt HZ2) _)))
        · have HR2 : Hid (r = (0, 0, false)) := by show _ = _; rw [HR.out]; simp [hq]
          have hqs := str_cmp (s := s) (by rw [← HL.out]; exact hq)
          clear hq hok
          generalize str (fracT n 1) = qq at *
          go_wp2
          exact bodyPost_ret (v := .tuple #[.agg #[.int .i64 0, .int .i64 0], .bool false]) (by simp [results, Tryd.results25, go_sem, s2, s3, v2, v3]) rfl (ret_fracB HR2.out (by (first | exact hb3 | exact hb3.setCell (by first | exact Nat.le_refl _ | exact Nat.le_of_lt HZ2) _ | exact (hb3.setCell (by first | exact Nat.le_refl _ | exact Nat.le_of_lt HZ2) _).setCell (by first | exact Nat.le_refl _ | exact Nat.le_of_lt HZ2) _ | exact ((hb3.setCell (by first | exact Nat.le_refl _ | exact Nat.le_of_lt HZ2) _).setCell (by first | exact Nat.le_refl _ | exact Nat.le_of_lt HZ2) _).setCell (by first | exact Nat.le_refl _ | exact Nat.le_of_lt HZ2) _)))

  · cases h2 : readN q with
    | mk m b2 =>
    have RD2 : Hid (∀ w', Below w.heap.size w w' → Calls Tryd.prog 15 #[.string (str q)] w' (NumB (m, b2) w')) := fun w' hb => by
      have := implReadDecimal_any (str q) w' (by rw [str_size]; omega) B (hE.below (hb.mono hB)) (Nat.le_trans hB hb.size)
      rwa [show (str q).data.toList = q from rfl, h2] at this
    have bm := readN_bound h2
    obtain ⟨bm1, bm2⟩ := bm
    have hIm : I64 m := ⟨by omega, by omega⟩
    have HR := Lib.hid (fracRead_two hcut h1 h2)
    clear hcut h1 h2 hE hM hl
    generalize fracRead l = r at *
    generalize str p = sp at *
    generalize str q = sq at *
    have HKE : Hid (∀ b, okF n m = b → ∀ w', Calls Tryd.prog 54 #[.agg #[.int .i64 n, .int .i64 m]] w' fun e w'' => e = .returned (.bool b) ∧ Below w'.heap.size w' w'') := fun b hb => isFrac_is n m hIn hIm b hb
    have hb0 : Below w.heap.size w (w.alloc (.cells #[.int .i64 0, .int .i64 0] 34)) := by (repeat (first | exact Below.refl _ _ | assumption | refine Below.setCell ?_ (by (try simp) <;> omega) _ | refine Below.alloc ?_ (by (try simp) <;> omega) _ | refine below_drewN_ ?_ | refine Below.drew ?_))
    have r0 : (w.alloc (.cells #[.int .i64 0, .int .i64 0] 34)).cell? ⟨w.heap.size, 0, none⟩ = some (.int .i64 0) := by go_simp
    have r1 : (w.alloc (.cells #[.int .i64 0, .int .i64 0] 34)).cell? ⟨w.heap.size, 1, none⟩ = some (.int .i64 0) := by go_simp
    have q0 : (w.alloc (.cells #[.int .i64 0, .int .i64 0] 34)).frozen? ⟨w.heap.size, 0, none⟩ = false := by go_simp
    have q1 : (w.alloc (.cells #[.int .i64 0, .int .i64 0] 34)).frozen? ⟨w.heap.size, 1, none⟩ = false := by go_simp
    have HZ : w.heap.size < (w.alloc (.cells #[.int .i64 0, .int .i64 0] 34)).heap.size := by simp
    go_enter Tryd.func25, Tryd.ntmps25
    go_wp2_with fail
    generalize w.alloc (.cells #[.int .i64 0, .int .i64 0] 34) = W0 at *
    refine (HC.out _ hb0).mono ?_
    rintro e w1 ⟨rfl, hb1⟩
    obtain ⟨hc1, hf1⟩ := bcell hb1
    have hz1 := hb1.size
    have hb := nxt hb0 hb1 hb0.size
    rw [← hc1 _ _ (by omega)] at r0 r1
    rw [← hf1 _ _ (by omega)] at q0 q1
    clear hb1 hc1 hf1 hb0
    go_wp2_with fail
    refine (RD1.out _ hb).mono ?_
    rintro e w2 ⟨rfl, hb2⟩
    obtain ⟨hc2, hf2⟩ := bcell hb2
    have hz2 := hb2.size
    replace hb := nxt hb hb2 hb.size
    rw [← hc2 _ _ (by omega)] at r0 r1
    rw [← hf2 _ _ (by omega)] at q0 q1
    clear hb2 hc2 hf2 HC RD1
    have HZ2 : w.heap.size < w2.heap.size := by omega
    clear hz1 hz2 HZ
    have hb3 : Below w.heap.size w (w2.alloc (.cells #[.int .i64 n, .int .i64 1] 34)) := hb.alloc hb.size _
    have s0 : (w2.alloc (.cells #[.int .i64 n, .int .i64 1] 34)).cell? ⟨w2.heap.size, 0, none⟩ = some (.int .i64 n) := by go_simp
    have s1 : (w2.alloc (.cells #[.int .i64 n, .int .i64 1] 34)).cell? ⟨w2.heap.size, 1, none⟩ = some (.int .i64 1) := by go_simp
    have v0 : (w2.alloc (.cells #[.int .i64 n, .int .i64 1] 34)).frozen? ⟨w2.heap.size, 0, none⟩ = false := by go_simp
    have v1 : (w2.alloc (.cells #[.int .i64 n, .int .i64 1] 34)).frozen? ⟨w2.heap.size, 1, none⟩ = false := by go_simp
    have s2 : (w2.alloc (.cells #[.int .i64 n, .int .i64 1] 34)).cell? ⟨w.heap.size, 0, none⟩ = some (.int .i64 0) := by go_simp
    have s3 : (w2.alloc (.cells #[.int .i64 n, .int .i64 1] 34)).cell? ⟨w.heap.size, 1, none⟩ = some (.int .i64 0) := by go_simp
    have v2 : (w2.alloc (.cells #[.int .i64 n, .int .i64 1] 34)).frozen? ⟨w.heap.size, 0, none⟩ = false := by go_simp
    have v3 : (w2.alloc (.cells #[.int .i64 n, .int .i64 1] 34)).frozen? ⟨w.heap.size, 1, none⟩ = false := by go_simp
    have HZ3 : w2.heap.size < (w2.alloc (.cells #[.int .i64 n, .int .i64 1] 34)).heap.size := by simp
    go_wp2_with fail
    generalize w2.alloc (.cells #[.int .i64 n, .int .i64 1] 34) = W2 at *
    refine (RD2.out _ hb3).mono ?_
    rintro e w4 ⟨rfl, hb4⟩
    obtain ⟨hc4, hf4⟩ := bcell hb4
    have hz4 := hb4.size
    replace hb3 := nxt hb3 hb4 hb3.size
    rw [← hc4 _ _ (by omega)] at s0 s1 s2 s3
    rw [← hf4 _ _ (by omega)] at v0 v1 v2 v3
    clear hb4 hc4 hf4 RD2
    cases b1
    · have HR2 : Hid (r = (0, 0, false)) := by show _ = _; rw [HR.out]; simp
      go_wp2
      exact bodyPost_ret (v := .tuple #[.agg #[.int .i64 0, .int .i64 0], .bool false]) (by simp [results, Tryd.results25, go_sem, s2, s3, v2, v3]) rfl (ret_fracB HR2.out (by (first | exact hb3 | exact hb3.setCell (by first | exact Nat.le_refl _ | exact Nat.le_of_lt HZ2) _ | exact (hb3.setCell (by first | exact Nat.le_refl _ | exact Nat.le_of_lt HZ2) _).setCell (by first | exact Nat.le_refl _ | exact Nat.le_of_lt HZ2) _ | exact ((hb3.setCell (by first | exact Nat.le_refl _ | exact Nat.le_of_lt HZ2) _).setCell (by first | exact Nat.le_refl _ | exact Nat.le_of_lt HZ2) _).setCell (by first | exact Nat.le_refl _ | exact Nat.le_of_lt HZ2) _)))
    cases b2
    · have HR2 : Hid (r = (0, 0, false)) := by show _ = _; rw [HR.out]; simp
      go_wp2
      exact bodyPost_ret (v := .tuple #[.agg #[.int .i64 0, .int .i64 0], .bool false]) (by simp [results, Tryd.results25, go_sem, s2, s3, v2, v3]) rfl (ret_fracB HR2.out (by (first | exact hb3 | exact hb3.setCell (by first | exact Nat.le_refl _ | exact Nat.le_of_lt HZ2) _ | exact (hb3.setCell (by first | exact Nat.le_refl _ | exact Nat.le_of_lt HZ2) _).setCell (by first | exact Nat.le_refl _ | exact Nat.le_of_lt HZ2) _ | exact ((hb3.setCell (by first | exact Nat.le_refl _ | exact Nat.le_of_lt HZ2) _).setCell (by first | exact Nat.le_refl _ | exact Nat.le_of_lt HZ2) _).setCell (by first | exact Nat.le_refl _ | exact Nat.le_of_lt HZ2) _)))
    obtain ⟨okb, hok⟩ : ∃ b, okF n m = b := ⟨_, rfl⟩
    have HOK := Lib.hid hok
    clear hok
    have x0 : (w4.setCell ⟨w2.heap.size, 1, none⟩ (.int .i64 m)).cell? ⟨w2.heap.size, 0, none⟩ = some (.int .i64 n) := by go_simp
    have x1 : (w4.setCell ⟨w2.heap.size, 1, none⟩ (.int .i64 m)).cell? ⟨w2.heap.size, 1, none⟩ = some (.int .i64 m) := by go_simp
    have x2 : (w4.setCell ⟨w2.heap.size, 1, none⟩ (.int .i64 m)).cell? ⟨w.heap.size, 0, none⟩ = some (.int .i64 0) := by go_simp
    have x3 : (w4.setCell ⟨w2.heap.size, 1, none⟩ (.int .i64 m)).cell? ⟨w.heap.size, 1, none⟩ = some (.int .i64 0) := by go_simp
    have y2 : (w4.setCell ⟨w2.heap.size, 1, none⟩ (.int .i64 m)).frozen? ⟨w.heap.size, 0, none⟩ = false := by go_simp
    have y3 : (w4.setCell ⟨w2.heap.size, 1, none⟩ (.int .i64 m)).frozen? ⟨w.heap.size, 1, none⟩ = false := by go_simp
    have hb9 : Below w.heap.size w (w4.setCell ⟨w2.heap.size, 1, none⟩ (.int .i64 m)) := hb3.setCell (by simp; omega) _
    have hz9 : w2.heap.size < (w4.setCell ⟨w2.heap.size, 1, none⟩ (.int .i64 m)).heap.size := by simp; omega
    go_wp2_with fail
    have hok := HOK.out
    clear HOK s0 s1 s2 s3 v0 v1 v2 v3 hb3
    generalize w4.setCell ⟨w2.heap.size, 1, none⟩ (.int .i64 m) = W4 at *
    have s0 := x0
    have s1 := x1
    have s2 := x2
    have s3 := x3
    have v2 := y2
    have v3 := y3
    have hb3 := hb9
    clear x0 x1 x2 x3 y2 y3 hb9
    refine (HKE.out okb hok _).mono ?_
    rintro e w5 ⟨rfl, hb5⟩
    obtain ⟨hc5, hf5⟩ := bcell hb5
    have hz5 := hb5.size
    replace hb3 := nxt hb3 hb5 hb3.size
    rw [← hc5 _ _ (by omega)] at s0 s1 s2 s3
    rw [← hf5 _ _ (by omega)] at v2 v3
    clear hb5 hc5 hf5
    cases okb
    · have HR2 : Hid (r = (0, 0, false)) := by show _ = _; rw [HR.out]; simp [hok]
      clear hok
      go_wp2
      exact bodyPost_ret (v := .tuple #[.agg #[.int .i64 0, .int .i64 0], .bool false]) (by simp [results, Tryd.results25, go_sem, s2, s3, v2, v3]) rfl (ret_fracB HR2.out (by (first | exact hb3 | exact hb3.setCell (by first | exact Nat.le_refl _ | exact Nat.le_of_lt HZ2) _ | exact (hb3.setCell (by first | exact Nat.le_refl _ | exact Nat.le_of_lt HZ2) _).setCell (by first | exact Nat.le_refl _ | exact Nat.le_of_lt HZ2) _ | exact ((hb3.setCell (by first | exact Nat.le_refl _ | exact Nat.le_of_lt HZ2) _).setCell (by first | exact Nat.le_refl _ | exact Nat.le_of_lt HZ2) _).setCell (by first | exact Nat.le_refl _ | exact Nat.le_of_lt HZ2) _)))
    · go_wp2_with fail
      refine (implFracText_any n m _ hIn hIm B (TB.out _ hb3) (Nat.le_trans hB hb3.size)).mono ?_
      rintro e w6 ⟨rfl, hb6⟩
      obtain ⟨hc6, hf6⟩ := bcell hb6
      have hz6 := hb6.size
      replace hb3 := nxt hb3 hb6 hb3.size
      rw [← hc6 _ _ (by omega)] at s0 s1 s2 s3
      rw [← hf6 _ _ (by omega)] at v2 v3
      clear hb6 hc6 hf6
      by_cases hq : fracT n m = l
      · have HR2 : Hid (r = (n, m, true)) := by show _ = _; rw [HR.out]; simp [hok, hq]
        have hqs : str (fracT n m) = s := by rw [hq, HL.out]; exact (str_of s).symm
        rw [hqs]
        clear hq hqs hok
        go_wp2
        exact bodyPost_ret (v := .tuple #[.agg #[.int .i64 n, .int .i64 m], .bool true]) (by simp [results, Tryd.results25, go_sem, s2, s3, v2, v3]) rfl (ret_fracB HR2.out (by (first | exact hb3 | exact hb3.setCell (by first | exact Nat.le_refl _ | exact Nat.le_of_lt HZ2) _ | exact (hb3.setCell (by first | exact Nat.le_refl _ | exact Nat.le_of_lt HZ2) _).setCell (by first | exact Nat.le_refl _ | exact Nat.le_of_lt HZ2) _ | exact ((hb3.setCell (by first | exact Nat.le_refl _ | exact Nat.le_of_lt HZ2) _).setCell (by first | exact Nat.le_refl _ | exact Nat.le_of_lt HZ2) _).setCell (by first | exact Nat.le_refl _ | exact Nat.le_of_lt HZ2) _)))
      · have HR2 : Hid (r = (0, 0, false)) := by show _ = _; rw [HR.out]; simp [hq]
        have hqs := str_cmp (s := s) (by rw [← HL.out]; exact hq)
        clear hq hok
        generalize str (fracT n m) = qq at *
        go_wp2
        exact bodyPost_ret (v := .tuple #[.agg #[.int .i64 0, .int .i64 0], .bool false]) (by simp [results, Tryd.results25, go_sem, s2, s3, v2, v3]) rfl (ret_fracB HR2.out (by (first | exact hb3 | exact hb3.setCell (by first | exact Nat.le_refl _ | exact Nat.le_of_lt HZ2) _ | exact (hb3.setCell (by first | exact Nat.le_refl _ | exact Nat.le_of_lt HZ2) _).setCell (by first | exact Nat.le_refl _ | exact Nat.le_of_lt HZ2) _ | exact ((hb3.setCell (by first | exact Nat.le_refl _ | exact Nat.le_of_lt HZ2) _).setCell (by first | exact Nat.le_refl _ | exact Nat.le_of_lt HZ2) _).setCell (by first | exact Nat.le_refl _ | exact Nat.le_of_lt HZ2) _)))


end Go.Proofs.YtplioelpmfeabaaDoor
