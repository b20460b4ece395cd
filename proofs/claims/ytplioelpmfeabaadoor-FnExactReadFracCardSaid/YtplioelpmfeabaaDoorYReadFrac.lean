/- The law ReadFrac. -/
import Derived.Test.YtplioelpmfeabaaDoorQt
import Derived.Test.YtplioelpmfeabaaDoorWc
namespace Go.Proofs.YtplioelpmfeabaaDoor
open Go.RowKit
set_option linter.unusedVariables false
set_option linter.unusedSimpArgs false

set_option maxHeartbeats 2000000 in
theorem walk_FnExactReadFrac (s : ByteArray) (w : World) (hs : s.size ≤ maxLen) (hE : RdEnv w.heap.size w) (hM : MaxEnv w.heap.size w) :
    Calls Tryd.prog 7 #[.string s] w fun e w' => e = .returned (.bool true) ∧ Below w.heap.size w w' := by
  unfold maxLen at hs
  by_cases hb : 1048576 < s.size
  · clear hE hM
    go_enter Tryd.func7, Tryd.ntmps7
    go_wp2
    go_ret
    exact ⟨rfl, Below.refl _ _⟩
  have hs2 : s.size ≤ 1048576 := by omega
  clear hs hb
  have HE := Lib.hid hE
  have HM := Lib.hid hM
  have H1 := Lib.hid (specReadFrac_any s w hs2)
  have H2 : Hid (∀ w', Below w.heap.size w w' → Calls Tryd.prog 25 #[.string s] w' (FracB (fracRead s.data.toList) w')) := fun w' hb => implReadFrac_any s w' hs2 w.heap.size (HE.out.below hb) (HM.out.below hb) hb.size
  clear hE hM
  generalize fracRead s.data.toList = r at *
  obtain ⟨n, d, b⟩ := r
  go_enter Tryd.func7, Tryd.ntmps7
  go_wp2_with fail
  refine H1.out.mono ?_
  rintro e w1 ⟨rfl, hb1⟩
  have hz1 := hb1.size
  go_wp2_with fail
  have hb2 : Below w.heap.size w (w1.alloc (.cells #[.int .i64 n, .int .i64 d] 34)) := hb1.alloc hz1 _
  have e0 : (w1.alloc (.cells #[.int .i64 n, .int .i64 d] 34)).cell? ⟨w1.heap.size, 0, none⟩ = some (.int .i64 n) := by go_simp
  have e1 : (w1.alloc (.cells #[.int .i64 n, .int .i64 d] 34)).cell? ⟨w1.heap.size, 1, none⟩ = some (.int .i64 d) := by go_simp
  have hz2 : w1.heap.size < (w1.alloc (.cells #[.int .i64 n, .int .i64 d] 34)).heap.size := by simp
  generalize w1.alloc (.cells #[.int .i64 n, .int .i64 d] 34) = W1 at *
  generalize w1.heap.size = g at *
  refine (H2.out _ hb2).mono ?_
  rintro e w2 ⟨rfl, hb3⟩
  have hz3 := hb3.size
  rw [← (bcell hb3).1 _ _ (by omega)] at e0 e1
  have hb4 := nxt hb2 hb3 hb2.size
  have hz4 : g < w2.heap.size := by omega
  have d0 : (w2.alloc (.cells #[.int .i64 n, .int .i64 d] 34)).cell? ⟨g, 0, none⟩ = some (.int .i64 n) := (World.cell?_alloc_lt w2 _ _ hz4).trans e0
  have d1 : (w2.alloc (.cells #[.int .i64 n, .int .i64 d] 34)).cell? ⟨g, 1, none⟩ = some (.int .i64 d) := (World.cell?_alloc_lt w2 _ _ hz4).trans e1
  clear hb2 hb3 hb1
  go_wp2_with fail
  have hb5 : Below w.heap.size w (w2.alloc (.cells #[.int .i64 n, .int .i64 d] 34)) := hb4.alloc hb4.size _
  refine (eqFrac_any _ _ _).mono ?_
  rintro e w3 ⟨rfl, hb6⟩
  have hb7 := nxt hb5 hb6 hb5.size
  clear hb4 hb5 hb6
  go_wp2
  go_ret
  exact ⟨rfl, hb7⟩

end Go.Proofs.YtplioelpmfeabaaDoor
