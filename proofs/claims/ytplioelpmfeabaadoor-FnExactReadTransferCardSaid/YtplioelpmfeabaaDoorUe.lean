/- The walk of the program's ReadTransfer. -/
import Derived.Test.YtplioelpmfeabaaDoorUd
namespace Go.Proofs.YtplioelpmfeabaaDoor
open Go.RowKit
set_option linter.unusedVariables false
set_option linter.unusedSimpArgs false

theorem SlG.part {w : World} {B g off : Nat} {ws : List (List UInt8)} (h : SlG w B (some ⟨g, off, none⟩) (strV ws)) {a b : Nat} (hb : b ≤ ws.length) : SlG w B (some ⟨g, off + a, none⟩) (strV ((ws.take b).drop a)) := by
  intro hp
  rw [strV_length, List.length_drop, List.length_take] at hp
  obtain ⟨b', o', he, hlt, hc⟩ := h (by rw [strV_length]; omega)
  injection he with he
  injection he with h1 h2
  subst h1 h2
  refine ⟨_, _, rfl, hlt, fun k hk => ?_⟩
  rw [strV_length, List.length_drop, List.length_take] at hk
  have := hc (a + k) (by rw [strV_length]; omega)
  rw [strV_get _ _ (by omega)] at this
  rw [strV_get _ _ (by rw [List.length_drop, List.length_take]; omega), Nat.add_assoc, this]
  congr 3
  simp [List.getD_eq_getElem?_getD, List.getElem?_drop, List.getElem?_take, show a + k < b by omega]
theorem rdAll_len (ws : List (List UInt8)) : (rdAll ws).1.length ≤ ws.length := by
  unfold rdAll
  split
  · rw [numsOf_length]; exact Nat.le_refl _
  · simp
theorem rdAll_i64 (ws : List (List UInt8)) : ∀ x ∈ (rdAll ws).1, I64 x := by
  unfold rdAll
  split
  · intro x hx
    unfold numsOf at hx
    obtain ⟨p, _, rfl⟩ := List.mem_map.1 hx
    rcases hr : readN p with ⟨m, b⟩
    have := readN_bound hr
    exact ⟨by show _ ≤ m; omega, by show m ≤ _; omega⟩
  · intro x hx; simp at hx

set_option maxRecDepth 100000 in
set_option maxHeartbeats 4000000 in
theorem implReadTransfer_any (s : ByteArray) (w : World) (hs : s.size ≤ 1048576) (K : Nat) (hE : RdEnv K w) (hM : MaxEnv K w) (hK : K ≤ w.heap.size) : Calls Tryd.prog 41 #[.string s] w (TrIs (trRead s.data.toList) w) := by
  obtain ⟨l, hl⟩ : ∃ l, l = s.data.toList := ⟨_, rfl⟩
  rw [← hl]
  have HL := Lib.hid hl
  have hll : l.length ≤ 1048576 := by rw [hl, ← Lib.size_eq]; exact hs
  obtain ⟨ws, hws⟩ : ∃ ws, ws = words l := ⟨_, rfl⟩
  have hwl : ws.length ≤ 1048577 := by rw [hws]; have := words_length l; omega
  have hwp : ∀ p ∈ ws, p.length ≤ 1048576 := by rw [hws]; exact fun p hp => by have := words_le l p hp; omega
  have HSp : Hid (∀ w', Below w.heap.size w w' → Calls Tryd.prog 17 #[.string s] w' (FreshG 9 (strV ws) w')) := fun w' hb => by
    rw [hws, hl]; exact implSplitWords_any s w' hs K (hM.below (hb.mono hK)) (Nat.le_trans hK hb.size)
  have HRd : Hid (∀ (A : Option Addr) (c n : Nat) (qs : List (List UInt8)) (w' : World) (B0 : Nat), Below w.heap.size w w' → SlG w' B0 A (strV qs) → B0 ≤ w'.heap.size → n = qs.length → qs.length ≤ ws.length → (∀ p ∈ qs, p ∈ ws) → Calls Tryd.prog 62 #[.slice A n c] w' (NumsIs (rdAll qs) w')) :=
    fun A c n qs w' B0 hb h hB0 hn hq hm => readNumbers_any A c n qs w' B0 h hB0 hn (by omega) (fun p hp => hwp p (hm p hp)) K (hE.below (hb.mono hK)) (Nat.le_trans hK hb.size)
  have HPw : Hid (∀ w', Below w.heap.size w w' → PowAt K w') := fun w' hb => hE.pow.on (hb.mono hK)
  have HKw : Hid (K ≤ w.heap.size) := hK
  have HLn : Hid ((strV ws).length = ws.length) := strV_length ws
  have HG : Hid (∀ k, k < ws.length → (strV ws).getD k undef = .string (str (ws.getD k []))) := fun k hk => strV_get ws k hk
  have HHit : Hid (∀ k z, k < ws.length → ws.getD k [] = denW → ImInv l k z → ImInv l (k + 1) k) := fun k z hk he h => h.hit (by rw [← hws]; exact hk) (by rw [← hws]; exact he)
  have HMiss : Hid (∀ k z, k < ws.length → ws.getD k [] ≠ denW → ImInv l k z → ImInv l (k + 1) z) := fun k z hk he h => h.miss (by rw [← hws]; exact hk) (by rw [← hws]; exact he)
  have HNone : Hid (∀ z, ImInv l ws.length z → z < 1 → trRead l = (([], []), false)) := fun z h hz => ImInv.none (by rw [← hws]; exact h) hz
  have HFin : Hid (∀ i : Nat, ImInv l ws.length i → ∀ xs ys, Tr l xs ys → rdAll ((ws.take i).drop 1) = (xs, true) ∧ rdAll (ws.drop (i + 1)) = (ys, true)) := fun i h => by
    rw [hws] at h ⊢
    exact h.fin
  clear hE hM hwp hl hws
  generalize hr : trRead l = r at *
  have HR := Lib.hid hr
  clear hr
  obtain ⟨f, hf⟩ : ∃ f : Nat → List UInt8, f = fun k => ws.getD k [] := ⟨_, rfl⟩
  simp only [← congrFun hf _] at HG HHit HMiss
  clear hf
  obtain ⟨n, hn⟩ : ∃ n, n = ws.length := ⟨_, rfl⟩
  rw [← hn] at hwl HLn HG HHit HMiss HNone HFin
  have HN := Lib.hid hn
  clear hn
  have hb0 : Below w.heap.size w (w.alloc (.cells #[.slice none 0 0, .slice none 0 0] 52)) := by (repeat (first | exact Below.refl _ _ | assumption | refine Below.setCell ?_ (by (try simp) <;> omega) _ | refine Below.alloc ?_ (by (try simp) <;> omega) _ | refine below_drewN_ ?_ | refine Below.drew ?_))
  have r0 : (w.alloc (.cells #[.slice none 0 0, .slice none 0 0] 52)).cell? ⟨w.heap.size, 0, none⟩ = some (.slice none 0 0) := by go_simp
  have r1 : (w.alloc (.cells #[.slice none 0 0, .slice none 0 0] 52)).cell? ⟨w.heap.size, 1, none⟩ = some (.slice none 0 0) := by go_simp
  have q0 : (w.alloc (.cells #[.slice none 0 0, .slice none 0 0] 52)).frozen? ⟨w.heap.size, 0, none⟩ = false := by go_simp
  have q1 : (w.alloc (.cells #[.slice none 0 0, .slice none 0 0] 52)).frozen? ⟨w.heap.size, 1, none⟩ = false := by go_simp
  have hz0 : w.heap.size < (w.alloc (.cells #[.slice none 0 0, .slice none 0 0] 52)).heap.size := by simp
  go_enter Tryd.func41, Tryd.ntmps41
  go_wp2_with fail
  generalize w.alloc (.cells #[.slice none 0 0, .slice none 0 0] 52) = W at *
  refine (HSp.out W hb0).mono ?_
  rintro e w1 ⟨A1, c1, rfl, hO1, hb1⟩
  rw [HLn.out]
  have hz1 := hb1.size
  have hbw1 := nxt hb0 hb1 hb0.size
  rw [← (bcell hb1).1 _ _ hz0] at r0 r1
  rw [← (bcell hb1).2 _ _ hz0] at q0 q1
  have HO1 := Lib.hid hO1
  clear hO1 hb1 hb0
  have HZR : w.heap.size < w1.heap.size := by omega
  have HB1 := Lib.hid hbw1
  clear hbw1 hz1 hz0
  go_wp2
  go_loop [5, 17] (fun dv i => ∃ (k : Nat) (z : Int), k ≤ n ∧ i = .int .i64 k ∧ dv = .int .i64 z ∧ Hid (ImInv l k z) ∧ -1 ≤ z ∧ z < k) (fun _ i => n - (intOf i).toNat)
  case atStart => exact ⟨0, -1, by omega, rfl, rfl, Lib.hid (ImInv.start l), by omega, by omega⟩
  case round =>
    obtain ⟨k, z, hk, rfl, rfl, HInv, hz1, hz2⟩ := hrel
    by_cases hlt : k < n
    · obtain ⟨bb, o, rfl, hb, hcell⟩ := HO1.out.sl (by rw [HLn.out]; omega)
      have k1 : w1.cell? ⟨bb, o + k, none⟩ = some (.string (str (f k))) := by
        rw [← HG.out k hlt, ← hcell k (by rw [HLn.out]; exact hlt)]
      clear hcell
      by_cases hd : f k = denW
      · have HI2 := Lib.hid (HHit.out k z hlt hd HInv.out)
        have hst := str_isden hd
        rw [hst] at k1
        clear hst hd
        go_wp2
        go_round
        case rel => exact ⟨k + 1, k, by omega, by go_num, rfl, HI2, by omega, by omega⟩
        case measure => simp [intOf]; omega
      · have HI2 := Lib.hid (HMiss.out k z hlt hd HInv.out)
        have hne := str_noden hd
        have hne2 : ((str (f k)).toList == [100, 101, 110]) = false := by rw [beq_eq_false_iff_ne]; exact hne
        clear hd
        generalize str (f k) = q at *
        go_wp2
        go_round
        case rel => exact ⟨k + 1, z, by omega, by go_num, rfl, HI2, by omega, by omega⟩
        case measure => simp [intOf]; omega
    · have hkn : k = n := by omega
      subst hkn
      by_cases hz : z < 1
      · have HNil : Hid (r = (([], []), false)) := HNone.out z HInv.out hz
        go_wp2
        exact bodyPost_ret (v := .tuple #[.agg #[.slice none 0 0, .slice none 0 0], .bool false]) (by simp [results, Tryd.results41, go_sem, r0, r1, q0, q1]) rfl (TrIs.nil_ HNil.out ((HB1.out.setCell (Nat.le_refl _) _).setCell (Nat.le_refl _) _))
      · obtain ⟨i, rfl⟩ : ∃ i : Nat, z = i := ⟨z.toNat, by omega⟩
        have hi1 : 1 ≤ i := by omega
        have hi2 : i < k := by omega
        obtain ⟨g, rfl, hg1, hg2⟩ := HO1.out.form (by rw [HLn.out]; omega)
        have hcap := HO1.out.cap
        rw [HLn.out] at hcap
        obtain ⟨hcap1, hcap2⟩ := hcap
        unfold maxLen at hcap2
        have HS1 := Lib.hid (HO1.out.sl.part (a := 1) (b := i) (by rw [← HN.out]; omega))
        have HS2 := Lib.hid (HO1.out.sl.part (a := i + 1) (b := ws.length) (Nat.le_refl _))
        rw [List.take_length] at HS2
        have HF := Lib.hid (HFin.out i HInv.out)
        have HM1 : Hid (∀ p ∈ (ws.take i).drop 1, p ∈ ws) := fun p hp => List.mem_of_mem_take (List.mem_of_mem_drop hp)
        have HM2 : Hid (∀ p ∈ ws.drop (i + 1), p ∈ ws) := fun p hp => List.mem_of_mem_drop hp
        have HN1 : Hid (((ws.take i).drop 1).length = i - 1) := by show _ = _; rw [List.length_drop, List.length_take, ← HN.out]; omega
        have HN2 : Hid ((ws.drop (i + 1)).length = k - (i + 1)) := by show _ = _; rw [List.length_drop, ← HN.out]
        generalize (ws.take i).drop 1 = p1 at *
        generalize ws.drop (i + 1) = p2 at *
        have HP1 := Lib.hid (rdAll_i64 p1)
        have HP2 := Lib.hid (rdAll_i64 p2)
        have hl1 := rdAll_len p1
        have hl2 := rdAll_len p2
        rw [HN1.out] at hl1
        rw [HN2.out] at hl2
        rcases h1 : rdAll p1 with ⟨u, b1⟩
        rcases h2 : rdAll p2 with ⟨v, b2⟩
        rw [h1] at HF HP1 hl1
        rw [h2] at HF HP2 hl2
        have H1 := Lib.hid h1
        have H2 := Lib.hid h2
        clear h1 h2 hg1 hg2 hz hlt
        have hu : u.length ≤ 1048576 := by have : u.length ≤ i - 1 := hl1; omega
        have hv : v.length ≤ 1048576 := by have : v.length ≤ k - (i + 1) := hl2; omega
        clear hl1 hl2
        go_wp2_with fail
        have C1 := HRd.out (some ⟨g, 1, none⟩) (c1 - 1) (i - 1) p1 w1 _ HB1.out HS1.out (Nat.le_refl _) HN1.out.symm (by rw [HN1.out, ← HN.out]; omega) HM1.out
        rw [H1.out] at C1
        refine C1.mono ?_
        rintro e w2 ⟨A2, c2, rfl, hOu, hb2⟩
        clear C1 HS1 HN1 HM1 H1
        dsimp only at hOu ⊢
        have hz2 := hb2.size
        have hbz2 := HB1.out.trans (hb2.mono HB1.out.size)
        rw [← (bcell hb2).1 _ _ HZR] at r0 r1
        rw [← (bcell hb2).2 _ _ HZR] at q0 q1
        rw [Nat.zero_add] at HS2
        have HS3 := Lib.hid (HS2.out.below hb2 (Nat.le_refl _))
        have HZR2 : w.heap.size < w2.heap.size := by omega
        clear hb2 HS2
        have C2 : Hid (∀ Ad cc, SlG w2 w1.heap.size Ad (strV p2) → Calls Tryd.prog 62 #[.slice Ad (k - (i + 1)) cc] w2 (NumsIs (v, b2) w2)) := fun Ad cc hsl => by
          have := HRd.out Ad cc (k - (i + 1)) p2 w2 _ hbz2 hsl hz2 HN2.out.symm (by rw [HN2.out, ← HN.out]; omega) HM2.out
          rwa [H2.out] at this
        clear HRd
        go_wp2_with fail
        all_goals
          refine (C2.out _ _ (by first | exact HS3.out | exact fun h => absurd h (by rw [strV_length, HN2.out]; omega))).mono ?_
          rintro e w3 ⟨A3, c3, rfl, hOv, hb3⟩
          clear C2 HS3 HN2 HM2 H2
          dsimp only at hOv ⊢
          have hz3 := hb3.size
          have hbz3 := hbz2.trans (hb3.mono hbz2.size)
          rw [← (bcell hb3).1 _ _ HZR2] at r0 r1
          rw [← (bcell hb3).2 _ _ HZR2] at q0 q1
          have hOu3 := hOu.below hb3 (Nat.le_refl _)
          have HZR3 : w.heap.size < w3.heap.size := by omega
          clear hb3 hOu hbz2
          have HB3 := Lib.hid (hbz3.alloc hbz3.size (.cells #[.slice A2 u.length c2, .slice A3 v.length c3] 52))
          have HIs := Lib.hid (isTransfer_any A2 c2 u A3 c3 v (w3.alloc (.cells #[.slice A2 u.length c2, .slice A3 v.length c3] 52)) ((hOu3.arg (by omega) (by omega) HP1.out).alloc _) ((hOv.arg (Nat.le_refl _) (by omega) HP2.out).alloc _))
          have HTx : Hid (∀ w', Below (w3.alloc (.cells #[.slice A2 u.length c2, .slice A3 v.length c3] 52)).heap.size (w3.alloc (.cells #[.slice A2 u.length c2, .slice A3 v.length c3] 52)) w' → Calls Tryd.prog 38 #[.agg #[.slice A2 u.length c2, .slice A3 v.length c3]] w' (StrIs (transT u v) w')) := fun w' hb =>
            implTransferText_any A2 c2 u A3 c3 v w' (((hOu3.arg (by omega) (by omega) HP1.out).alloc _).below hb) (((hOv.arg (Nat.le_refl _) (by omega) HP2.out).alloc _).below hb) K (HPw.out _ (HB3.out.trans (hb.mono HB3.out.size))) (Nat.le_trans HKw.out (Nat.le_trans HB3.out.size hb.size))
          have HOu : Hid (Own (w3.alloc (.cells #[.slice A2 u.length c2, .slice A3 v.length c3] 52)) w1.heap.size w2.heap.size A2 c2 u) := hOu3.alloc _
          have HOv : Hid (Own (w3.alloc (.cells #[.slice A2 u.length c2, .slice A3 v.length c3] 52)) w2.heap.size w3.heap.size A3 c3 v) := hOv.alloc _
          clear hOu3 hOv
          obtain ⟨un, hun⟩ : ∃ un, un = u.length := ⟨_, rfl⟩
          obtain ⟨vn, hvn⟩ : ∃ vn, vn = v.length := ⟨_, rfl⟩
          rw [← hun, ← hvn] at HB3 HIs HTx HOu HOv ⊢
          rw [← hun] at hu
          rw [← hvn] at hv
          have HUN := Lib.hid hun
          have HVN := Lib.hid hvn
          clear hun hvn
          have s0 : (w3.alloc (.cells #[.slice A2 un c2, .slice A3 vn c3] 52)).cell? ⟨w3.heap.size, 0, none⟩ = some (.slice A2 un c2) := by go_simp
          have s1 : (w3.alloc (.cells #[.slice A2 un c2, .slice A3 vn c3] 52)).cell? ⟨w3.heap.size, 1, none⟩ = some (.slice A3 vn c3) := by go_simp
          have s2 : (w3.alloc (.cells #[.slice A2 un c2, .slice A3 vn c3] 52)).cell? ⟨w.heap.size, 0, none⟩ = some (.slice none 0 0) := by go_simp
          have s3 : (w3.alloc (.cells #[.slice A2 un c2, .slice A3 vn c3] 52)).cell? ⟨w.heap.size, 1, none⟩ = some (.slice none 0 0) := by go_simp
          have v2 : (w3.alloc (.cells #[.slice A2 un c2, .slice A3 vn c3] 52)).frozen? ⟨w.heap.size, 0, none⟩ = false := by go_simp
          have v3 : (w3.alloc (.cells #[.slice A2 un c2, .slice A3 vn c3] 52)).frozen? ⟨w.heap.size, 1, none⟩ = false := by go_simp
          have HZ3 : w3.heap.size < (w3.alloc (.cells #[.slice A2 un c2, .slice A3 vn c3] 52)).heap.size := by simp
          by_cases hbad : b1 = false ∨ b2 = false
          · have HNil : Hid (r = (([], []), false)) := by
              show _ = _
              rw [← HR.out]
              exact trRead_no fun xs ys ht => by
                obtain ⟨h1, h2⟩ := HF.out xs ys ht
                injection h1 with _ h1
                injection h2 with _ h2
                rcases hbad with h | h
                · rw [h] at h1; cases h1
                · rw [h] at h2; cases h2
            have z0 : (((w3.setCell ⟨w.heap.size, 0, none⟩ (.slice none 0 0)).setCell ⟨w.heap.size, 1, none⟩ (.slice none 0 0)).alloc (.cells #[.slice A2 un c2, .slice A3 vn c3] 52)).cell? ⟨w.heap.size, 0, none⟩ = some (.slice none 0 0) := by
              rw [World.cell?_alloc_lt _ _ _ (by simp; exact HZR3)]; go_simp
            have z1 : (((w3.setCell ⟨w.heap.size, 0, none⟩ (.slice none 0 0)).setCell ⟨w.heap.size, 1, none⟩ (.slice none 0 0)).alloc (.cells #[.slice A2 un c2, .slice A3 vn c3] 52)).cell? ⟨w.heap.size, 1, none⟩ = some (.slice none 0 0) := by
              rw [World.cell?_alloc_lt _ _ _ (by simp; exact HZR3)]; go_simp
            have HBE := Lib.hid (((hbz3.setCell (p := ⟨w.heap.size, 0, none⟩) (Nat.le_refl _) (.slice none 0 0)).setCell (p := ⟨w.heap.size, 1, none⟩) (Nat.le_refl _) (.slice none 0 0)).alloc (by simp; exact Nat.le_of_lt HZR3) (.cells #[.slice A2 un c2, .slice A3 vn c3] 52))
            clear HIs HTx HOu HOv HB3 HF
            have Z0 := Lib.hid z0
            have Z1 := Lib.hid z1
            clear z0 z1 s0 s1 s2 s3 v2 v3
            rcases hbad with rfl | rfl
            · go_wp2
              exact bodyPost_ret (v := .tuple #[.agg #[.slice none 0 0, .slice none 0 0], .bool false]) (by have z0 := Z0.out; have z1 := Z1.out; simp [results, Tryd.results41, go_sem, z0, z1]) rfl (TrIs.nil_ HNil.out HBE.out)
            · cases b1
              all_goals
                go_wp2
                exact bodyPost_ret (v := .tuple #[.agg #[.slice none 0 0, .slice none 0 0], .bool false]) (by have z0 := Z0.out; have z1 := Z1.out; simp [results, Tryd.results41, go_sem, z0, z1]) rfl (TrIs.nil_ HNil.out HBE.out)
          obtain rfl : b1 = true := by cases b1; exact absurd (.inl rfl) hbad; rfl
          obtain rfl : b2 = true := by cases b2; exact absurd (.inr rfl) hbad; rfl
          clear hbad r0 r1 q0 q1
          have HF2 : Hid (∀ xs ys, Tr l xs ys → u = xs ∧ v = ys) := fun xs ys ht => by
            obtain ⟨h1, h2⟩ := HF.out xs ys ht
            injection h1 with h1 _
            injection h2 with h2 _
            exact ⟨h1, h2⟩
          clear HF
          cases ht : trB u v
          · have HNil : Hid (r = (([], []), false)) := by
              show _ = _
              rw [← HR.out]
              exact trRead_no fun xs ys h => by
                obtain ⟨rfl, rfl⟩ := HF2.out xs ys h
                have := h.1
                rw [ht] at this
                cases this
            rw [ht] at HIs
            clear ht HTx HOu HOv
            go_wp2_with fail
            generalize w3.alloc (.cells #[.slice A2 un c2, .slice A3 vn c3] 52) = W3 at *
            refine HIs.out.mono ?_
            rintro e w4 ⟨rfl, hb4⟩
            have hgw : w.heap.size < W3.heap.size := by omega
            have hb5 := HB3.out.trans (hb4.mono HB3.out.size)
            have r0 := s2
            have r1 := s3
            have q0 := v2
            have q1 := v3
            clear s2 s3 v2 v3
            rw [← (bcell hb4).1 _ _ hgw] at r0 r1
            rw [← (bcell hb4).2 _ _ hgw] at q0 q1
            clear s0 s1 hb4
            go_wp2
            exact bodyPost_ret (v := .tuple #[.agg #[.slice none 0 0, .slice none 0 0], .bool false]) (by simp [results, Tryd.results41, go_sem, r0, r1, q0, q1]) rfl (TrIs.nil_ HNil.out ((hb5.setCell (Nat.le_refl _) _).setCell (Nat.le_refl _) _))
          · have HTR := Lib.hid ht
            rw [ht] at HIs
            clear ht
            by_cases hq : transT u v = l
            · have HYes : Hid (r = ((u, v), true)) := by
                show _ = _
                rw [← HR.out]
                exact trRead_yes ⟨HTR.out, (transT_yes HTR.out).trans hq⟩
              have hqs : str (transT u v) = s := by rw [hq, HL.out]; exact (str_of s).symm
              unfold StrIs at HTx
              rw [hqs] at HTx
              clear hq hqs
              go_wp2_with fail
              generalize w3.alloc (.cells #[.slice A2 un c2, .slice A3 vn c3] 52) = W3 at *
              refine HIs.out.mono ?_
              rintro e w4 ⟨rfl, hb4⟩
              have hz4 := hb4.size
              have hgw : w.heap.size < W3.heap.size := by omega
              have hb5 := HB3.out.trans (hb4.mono HB3.out.size)
              have r0 := s2
              have r1 := s3
              have q0 := v2
              have q1 := v3
              clear s2 s3 v2 v3
              rw [← (bcell hb4).1 _ _ hgw] at r0 r1
              rw [← (bcell hb4).2 _ _ hgw] at q0 q1
              rw [← (bcell hb4).1 _ _ HZ3] at s0 s1
              have hOu4 := HOu.out.below hb4 (by omega)
              have hOv4 := HOv.out.below hb4 (by omega)
              have hb4' := hb4
              clear HOu HOv hb4
              go_wp2_with fail
              refine (HTx.out _ hb4').mono ?_
              rintro e w5 ⟨rfl, hb6⟩
              have hz5 := hb6.size
              have hgw4 : w.heap.size < w4.heap.size := by omega
              have hgw5 : w3.heap.size < w4.heap.size := by omega
              rw [← (bcell hb6).1 _ _ hgw4] at r0 r1
              rw [← (bcell hb6).2 _ _ hgw4] at q0 q1
              rw [← (bcell hb6).1 _ _ hgw5] at s0 s1
              have hb7 := hb5.trans (hb6.mono hb5.size)
              have hOu5 := hOu4.below hb6 (by omega)
              have hOv5 := hOv4.below hb6 (by omega)
              clear hOu4 hOv4 hb6 hb4' hb5
              go_wp2
              refine bodyPost_ret (v := .tuple #[.agg #[.slice A2 un c2, .slice A3 vn c3], .bool true]) (by simp [results, Tryd.results41, go_sem, r0, r1, q0, q1]) rfl ?_
              exact TrIs.mk HYes.out HUN.out HVN.out (by rw [← HUN.out]; exact hu) (by rw [← HVN.out]; exact hv) ((hOu5.setFar (.inl (by show w.heap.size < _; omega)) _).setFar (.inl (by show w.heap.size < _; omega)) _) ((hOv5.setFar (.inl (by show w.heap.size < _; omega)) _).setFar (.inl (by show w.heap.size < _; omega)) _)
                (by omega) (by simp; omega) (by omega) (by simp; omega) (.inl (Nat.le_refl _)) ((hb7.setCell (Nat.le_refl _) _).setCell (Nat.le_refl _) _)
            · have HNil : Hid (r = (([], []), false)) := by
                show _ = _
                rw [← HR.out]
                exact trRead_end HF2.out hq
              have hqs := str_cmp2 (s := s) (by rw [← HL.out]; exact hq)
              unfold StrIs at HTx
              generalize str (transT u v) = qq at *
              clear hq
              go_wp2_with fail
              generalize w3.alloc (.cells #[.slice A2 un c2, .slice A3 vn c3] 52) = W3 at *
              refine HIs.out.mono ?_
              rintro e w4 ⟨rfl, hb4⟩
              have hz4 := hb4.size
              have hgw : w.heap.size < W3.heap.size := by omega
              have hb5 := HB3.out.trans (hb4.mono HB3.out.size)
              have r0 := s2
              have r1 := s3
              have q0 := v2
              have q1 := v3
              clear s2 s3 v2 v3
              rw [← (bcell hb4).1 _ _ hgw] at r0 r1
              rw [← (bcell hb4).2 _ _ hgw] at q0 q1
              rw [← (bcell hb4).1 _ _ HZ3] at s0 s1
              have hb4' := hb4
              clear HOu HOv hb4
              go_wp2_with fail
              refine (HTx.out _ hb4').mono ?_
              rintro e w5 ⟨rfl, hb6⟩
              have hz5 := hb6.size
              have hgw4 : w.heap.size < w4.heap.size := by omega
              rw [← (bcell hb6).1 _ _ hgw4] at r0 r1
              rw [← (bcell hb6).2 _ _ hgw4] at q0 q1
              have hb7 := hb5.trans (hb6.mono hb5.size)
              clear hb6 hb4' hb5 s0 s1
              go_wp2
              exact bodyPost_ret (v := .tuple #[.agg #[.slice none 0 0, .slice none 0 0], .bool false]) (by simp [results, Tryd.results41, go_sem, r0, r1, q0, q1]) rfl (TrIs.nil_ HNil.out ((hb7.setCell (Nat.le_refl _) _).setCell (Nat.le_refl _) _))

end Go.Proofs.YtplioelpmfeabaaDoor
