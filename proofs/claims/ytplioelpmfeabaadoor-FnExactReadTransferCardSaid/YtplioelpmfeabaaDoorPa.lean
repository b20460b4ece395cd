/- Plain facts on wrapped numbers, without any program. -/
import Derived.WalkKit
import Derived.Laws.BitsLemmas
import Derived.Laws.BitsAllLaws
namespace Go.Proofs.YtplioelpmfeabaaDoor
open Go.RowKit

/-- A number within bounds. -/
def inB (lo hi n : Int) : Bool := decide (lo ≤ n) && decide (n ≤ hi)
theorem inB_true {lo hi n : Int} : inB lo hi n = true ↔ lo ≤ n ∧ n ≤ hi := by simp [inB]
theorem inB_false {lo hi n : Int} : inB lo hi n = false ↔ n < lo ∨ hi < n := by simp [inB]; omega
theorem inB_mk {lo hi n : Int} (h : lo ≤ n) (h' : n ≤ hi) : inB lo hi n = true := inB_true.2 ⟨h, h'⟩

theorem inB_hi {lo hi n : Int} (h : lo ≤ n) : decide (n ≤ hi) = inB lo hi n := by simp [inB, h]
theorem inB_lo {lo hi n : Int} (h : ¬ lo ≤ n) : false = inB lo hi n := by simp [inB]; omega

theorem and_mask (k : Nat) (m : Int) (hk : k ≤ 63) (hm : (BitVec.ofInt 64 m).toNat = 2 ^ k - 1) (n : Int) : bits .and .i64 n m = n % ((2 ^ k : Nat) : Int) := by
  have key : (BitVec.ofInt 64 n &&& BitVec.ofInt 64 m).toNat = (n % ((2 ^ 64 : Nat) : Int)).toNat % 2 ^ k := by
    rw [BitVec.toNat_and, BitVec.toNat_ofInt, hm, Nat.and_two_pow_sub_one_eq_mod]
  show IntKind.i64.wrap ((BitVec.ofInt 64 n &&& BitVec.ofInt 64 m).toNat : Nat) = _
  rw [key]
  have hlt : (n % ((2 ^ 64 : Nat) : Int)).toNat % 2 ^ k < 2 ^ k := Nat.mod_lt _ (Nat.two_pow_pos k)
  have hle : (2 ^ k : Nat) ≤ 2 ^ 63 := Nat.pow_le_pow_right (by omega) hk
  rw [IntWalk.i64_in _ (by omega)]
  have h0 : 0 ≤ n % ((2 ^ 64 : Nat) : Int) := Int.emod_nonneg _ (by omega)
  rw [Int.natCast_emod, Int.toNat_of_nonneg h0]
  have hd : ((2 ^ k : Nat) : Int) ∣ ((2 ^ 64 : Nat) : Int) := by
    rw [Int.natCast_dvd_natCast]; exact Nat.pow_dvd_pow 2 (by omega)
  exact Int.emod_emod_of_dvd n hd

theorem and32 (n : Int) : bits .and .i64 n 4294967295 = n % 4294967296 := and_mask 32 _ (by decide) (by decide) n
theorem and16 (n : Int) : bits .and .i64 n 65535 = n % 65536 := and_mask 16 _ (by decide) (by decide) n
theorem and1 (n : Int) : bits .and .i64 n 1 = n % 2 := and_mask 1 _ (by decide) (by decide) n

theorem wrap32_lo (n : Int) : -2147483648 ≤ wrap32 n := by unfold wrap32; omega
theorem wrap32_hi (n : Int) : wrap32 n ≤ 2147483647 := by unfold wrap32; omega
theorem wrap64_wrap32 (n : Int) : wrap64 (wrap32 n) = wrap32 n := IntWalk.wrap64_in _ (by have := wrap32_lo n; have := wrap32_hi n; omega)
theorem wrap32_wrap64 (n : Int) : wrap32 (wrap64 n) = wrap32 n := by unfold wrap32 wrap64; omega
theorem wrap32_wrap32 (n : Int) : wrap32 (wrap32 n) = wrap32 n := by unfold wrap32; omega
theorem wrap32_add (a b : Int) : wrap32 (wrap32 a + wrap32 b) = wrap32 (a + b) := by unfold wrap32; omega
theorem wrap32_sub (a b : Int) : wrap32 (wrap32 a - wrap32 b) = wrap32 (a - b) := by unfold wrap32; omega
theorem wrap32_congr {a b : Int} (h : a % 4294967296 = b % 4294967296) : wrap32 a = wrap32 b := by unfold wrap32; omega
theorem wrap32_mod (a : Int) : wrap32 a % 4294967296 = a % 4294967296 := by unfold wrap32; omega
theorem wrap32_mul (a b : Int) : wrap32 (wrap32 a * wrap32 b) = wrap32 (a * b) := by
  apply wrap32_congr
  rw [Int.mul_emod, wrap32_mod, wrap32_mod, ← Int.mul_emod]
theorem wrap32_of_mod (n : Int) (h : 2147483647 < n % 4294967296) : n % 4294967296 - 4294967296 = wrap32 n := by unfold wrap32; omega
theorem wrap32_of_mod' (n : Int) (h : n % 4294967296 ≤ 2147483647) : n % 4294967296 = wrap32 n := by unfold wrap32; omega
theorem smp_mul {a b : Int} (ha : -2147483648 ≤ a) (ha' : a ≤ 2147483647) (hb : -2147483648 ≤ b) (hb' : b ≤ 2147483647) : -4611686018427387904 ≤ a * b ∧ a * b ≤ 4611686018427387904 := by
  have h1 : a.natAbs ≤ 2147483648 := by omega
  have h2 : b.natAbs ≤ 2147483648 := by omega
  have h3 : (a * b).natAbs ≤ 2147483648 * 2147483648 := by rw [Int.natAbs_mul]; exact Nat.mul_le_mul h1 h2
  omega

theorem ret_int {k : IntKind} {a b : Int} (h : a = b) : Ending.returned (.int k a) = .returned (.int k b) := by rw [h]
theorem ret_bool {a b : Bool} (h : a = b) : Ending.returned (.bool a) = .returned (.bool b) := by rw [h]

end Go.Proofs.YtplioelpmfeabaaDoor
