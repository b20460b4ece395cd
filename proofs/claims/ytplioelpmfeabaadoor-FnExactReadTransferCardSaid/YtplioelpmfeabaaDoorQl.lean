/- Walks: the text of numbers, the program's side; numbers read out of words. -/
import Derived.Test.YtplioelpmfeabaaDoorQk
import Derived.Test.YtplioelpmfeabaaDoorQi
import Derived.Test.YtplioelpmfeabaaDoorQd
import Derived.Test.YtplioelpmfeabaaDoorMa
namespace Go.Proofs.YtplioelpmfeabaaDoor
open Go.RowKit
set_option linter.unusedVariables false
set_option linter.unusedSimpArgs false

/-- What the program's writing of numbers asks of the world: the table of powers, as it was from block B on down. -/
abbrev PowAt (B : Nat) (w : World) : Prop := Lib.TabBelow Tryd.prog B w "internal/strconv.uint64pow10" .u64 Lib.pow10Tab

set_option maxRecDepth 100000 in
set_option maxHeartbeats 2000000 in
theorem numbersText_any (A : Option Addr) (c : Nat) (xs : List Int) (w : World) (h : Arg w A c xs) (B : Nat) (hP : PowAt B w) (hB : B ≤ w.heap.size) : Calls Tryd.prog 60 #[.slice A xs.length c] w (StrIs (textN xs) w) := by
  have HS := Lib.hid h.sl
  have hl := h.len
  have HI : Hid (∀ k, I64 (xs.getD k 0)) := fun k => by
    rcases Nat.lt_or_ge k xs.length with hk | hk
    · have := h.i64 xs[k] (List.getElem_mem hk)
      simpa [List.getD_eq_getElem?_getD, hk] using this
    · rw [List.getD_eq_getElem?_getD, List.getElem?_eq_none hk]; exact ⟨by decide, by decide⟩
  have HJ : Hid ((joinC 32 ((xs.take xs.length).map Lib.itoa)).length ≤ 140737488355328) := by
    have h1 := textN_le (xs := xs.take xs.length) (fun x hx => h.i64 x (List.mem_of_mem_take hx))
    rw [List.length_take] at h1
    unfold textN at h1
    show _ ≤ _
    omega
  have HE : Hid (joinC 32 ((xs.take xs.length).map Lib.itoa) = textN xs) := by show _ = _; rw [List.take_length]; rfl
  have HL : Hid (∀ k, k ≤ xs.length → ((xs.take k).map Lib.itoa).length = k) := fun k hk => by rw [List.length_map, List.length_take]; omega
  have HST : Hid (∀ k, k < xs.length → (xs.take (k + 1)).map Lib.itoa = (xs.take k).map Lib.itoa ++ [Lib.itoa (xs.getD k 0)]) := fun k hk => by rw [take_getD hk, List.map_append]; rfl
  have HPow := Lib.hid hP
  clear h hP
  obtain ⟨T, hT⟩ : ∃ T : Nat → List (List UInt8), T = fun k => (xs.take k).map Lib.itoa := ⟨_, rfl⟩
  obtain ⟨f, hf⟩ : ∃ f : Nat → Int, f = fun k => xs.getD k 0 := ⟨_, rfl⟩
  have H0 : Hid (T 0 = []) := by show _ = _; rw [hT]; rfl
  have HSl : Hid (0 < xs.length → ∃ b off, A = some ⟨b, off, none⟩ ∧ b < w.heap.size ∧ ∀ k, k < xs.length → w.cell? ⟨b, off + k, none⟩ = some (.int .i64 (f k))) := by rw [hf]; exact HS.out
  clear HS
  simp only [← congrFun hT _, ← congrFun hf _] at HI HJ HE HL HST
  clear hT hf
  generalize textN xs = r at *
  generalize xs.length = n at *
  go_enter Tryd.func60, Tryd.ntmps60
  go_wp2
  go_loopw [3, 9, 5] (fun v i _ wr => ∃ (k : Nat) (A : Option Addr) (c : Nat), k ≤ n ∧ i = .int .i64 k ∧ v = .slice A k c ∧ OwnG 9 wr w.heap.size wr.heap.size A c (strV (T k)) ∧ Below w.heap.size w wr) (fun _ i _ _ => n - (intOf i).toNat)
  case atStart => exact ⟨0, _, _, by omega, rfl, rfl, by rw [H0.out]; exact OwnG.lit0 _ _, by (repeat (first | exact Below.refl _ _ | assumption | refine Below.setCell ?_ (by (try simp) <;> omega) _ | refine Below.alloc ?_ (by (try simp) <;> omega) _ | refine below_drewN_ ?_ | refine Below.drew ?_))⟩
  case round =>
    obtain ⟨k, A1, c1, hk, rfl, rfl, hown, hbr⟩ := hrel
    have hsz := hbr.size
    by_cases hlt : k < n
    · obtain ⟨b, o, rfl, hb, hcell⟩ := HSl.out (by omega)
      have e1 : wr.cell? ⟨b, o + k, none⟩ = some (.int .i64 (f k)) := (hbr.cell (p := ⟨b, o + k, none⟩) hb).trans (hcell k hlt)
      clear hcell
      have hi := Lib.hid (HI.out k)
      have HN := Lib.hid (HST.out k hlt)
      generalize f k = x at *
      go_wp2_with fail
      refine (implDecimal_any x wr B hi.out (HPow.out.on (hbr.mono hB))).mono ?_
      rintro e w1 ⟨rfl, hb1⟩
      have hown1 := hown.same hb1
      have hbr1 := hbr.trans (hb1.mono hbr.size)
      have hz1 := hb1.size
      clear hb1 hown
      go_wp2_with (at_builtin; refine wl_appG1 rfl (.tmp 13) (.tmp 16) 27 9 rfl Tryd.underlying27 (.string ByteArray.empty) 16 infoT rfl (by omega) (by omega) A1 c1 (strV (T k)) _ rfl k rfl hown1 (by rw [strV_length, HL.out k hk]) rfl (by omega) (by omega) ?_)
      intro A' c' w' hown' hb'
      have hown2 : OwnG 9 w' w.heap.size w'.heap.size A' c' (strV (T (k + 1))) := by rw [HN.out, strV_append]; exact hown'
      have hbr' := hbr1.trans hb'
      clear hown' hb'
      go_wp2
      go_roundw
      case rel => exact ⟨k + 1, A', c', by omega, by go_num, rfl, hown2, hbr'⟩
      case measure => simp [intOf]; omega
    · have hkn : k = n := by omega
      subst hkn
      go_wp2_with fail
      refine (join_any A1 c1 k (T k) wr _ _ hown (Nat.le_refl _) (HL.out k hk).symm (by omega) HJ.out).mono ?_
      rintro e w1 ⟨rfl, hb1⟩
      have hb2 := hbr.trans (hb1.mono hsz)
      go_wp2
      go_ret
      exact ⟨ret_str (by rw [HE.out]), hb2⟩

theorem implSignalText_any (A : Option Addr) (c : Nat) (xs : List Int) (w : World) (h : Arg w A c xs) (B : Nat) (hP : PowAt B w) (hB : B ≤ w.heap.size) : Calls Tryd.prog 29 #[.slice A xs.length c] w (StrIs (textS xs) w) := by
  have HA := Lib.hid (isSignal_any A c xs w _ h.sl (by have := h.len; omega))
  have HT := Lib.hid (numbersText_any A c xs w h B hP hB)
  clear h hP
  cases hs : sigB xs
  · have HR := Lib.hid (textS_no hs)
    rw [hs] at HA
    clear hs HT
    generalize textS xs = r at *
    generalize xs.length = n at *
    go_enter Tryd.func29, Tryd.ntmps29
    go_wp2_with fail
    refine HA.out.mono ?_
    rintro e w' ⟨rfl, rfl⟩
    go_wp2
    go_ret
    exact ⟨ret_str (by rw [← HR.out]; rfl), Below.refl _ _⟩
  · have HR := Lib.hid (textS_yes hs)
    rw [hs] at HA
    clear hs
    generalize textS xs = r at *
    generalize textN xs = q at *
    generalize xs.length = n at *
    go_enter Tryd.func29, Tryd.ntmps29
    go_wp2_with fail
    refine HA.out.mono ?_
    rintro e w' ⟨rfl, rfl⟩
    go_wp2_with fail
    refine HT.out.mono ?_
    rintro e w1 ⟨rfl, hb⟩
    go_wp2
    go_ret
    exact ⟨ret_str (by rw [HR.out]), hb⟩

end Go.Proofs.YtplioelpmfeabaaDoor
