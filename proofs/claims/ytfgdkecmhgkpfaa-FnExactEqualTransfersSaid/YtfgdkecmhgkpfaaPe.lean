/- Plain facts on the check value and on inverses of odd samples, without any program. -/
import Derived.Test.YtfgdkecmhgkpfaaPa
namespace Go.Proofs.Ytfgdkecmhgkpfaa
open Go.RowKit
set_option linter.unusedVariables false
set_option linter.unusedSimpArgs false

theorem ofInt_i64 (a : Nat) (ha : a < 9223372036854775808) : (BitVec.ofInt 64 (a : Int)).toNat = a := by
  rw [BitVec.ofInt_natCast, BitVec.toNat_ofNat]; exact Nat.mod_eq_of_lt (by omega)
theorem xor_nat (a b : Nat) (ha : a < 9223372036854775808) (hb : b < 9223372036854775808) : bits .xor .i64 (a : Int) (b : Int) = ((a ^^^ b : Nat) : Int) := by
  have hx : a ^^^ b < 2 ^ 63 := Nat.xor_lt_two_pow (by omega) (by omega)
  show IntKind.i64.wrap ((BitVec.ofInt 64 (a : Int) ^^^ BitVec.ofInt 64 (b : Int)).toNat : Int) = _
  rw [BitVec.toNat_xor, ofInt_i64 a ha, ofInt_i64 b hb, IntWalk.i64_in _ (by omega)]

/-- One bit of the check value. -/
def crc1 (x : Int) : Int := if 32768 ≤ x then bits .xor .i64 (2 * x - 65536) 4129 else 2 * x
theorem crc1_lo {x : Int} (h : 0 ≤ x) (h' : x ≤ 65535) : 0 ≤ crc1 x ∧ crc1 x ≤ 65535 := by
  unfold crc1
  split
  · obtain ⟨n, hn⟩ := Int.eq_ofNat_of_zero_le (show 0 ≤ 2 * x - 65536 by omega)
    rw [hn]
    have := xor_nat n 4129 (by omega) (by omega)
    have h2 : n ^^^ 4129 < 2 ^ 16 := Nat.xor_lt_two_pow (by omega) (by omega)
    rw [show (4129 : Int) = ((4129 : Nat) : Int) from rfl, this]
    omega
  · omega
theorem crc1_impl {x : Int} (h : 32768 ≤ x) (h' : x ≤ 65535) : (bits .xor .i64 (x * 2) 4129).tmod 65536 = crc1 x := by
  unfold crc1
  rw [if_pos h]
  obtain ⟨n, hn⟩ := Int.eq_ofNat_of_zero_le (show 0 ≤ 2 * x - 65536 by omega)
  have e : x * 2 = ((65536 + n : Nat) : Int) := by omega
  rw [hn, e, show (4129 : Int) = ((4129 : Nat) : Int) from rfl, xor_nat _ _ (by omega) (by omega), xor_nat _ _ (by omega) (by omega)]
  rw [Int.tmod_eq_emod_of_nonneg (by omega), show (65536 : Int) = ((65536 : Nat) : Int) from rfl, ← Int.natCast_emod]
  congr 1
  have := Nat.xor_mod_two_pow (a := 65536 + n) (b := 4129) (n := 16)
  rw [show (65536 : Nat) = 2 ^ 16 from rfl] at *
  rw [this]
  congr 1
  omega
theorem crc1_impl_lo {x : Int} (h : 0 ≤ x) (h' : x ≤ 65535) : 0 ≤ bits .xor .i64 (x * 2) 4129 ∧ bits .xor .i64 (x * 2) 4129 ≤ 131071 := by
  obtain ⟨n, hn⟩ := Int.eq_ofNat_of_zero_le (show 0 ≤ x * 2 by omega)
  rw [hn, show (4129 : Int) = ((4129 : Nat) : Int) from rfl, xor_nat _ _ (by omega) (by omega)]
  have h2 : n ^^^ 4129 < 2 ^ 17 := Nat.xor_lt_two_pow (by omega) (by omega)
  omega
theorem crc1_low {x : Int} (h : x < 32768) : x * 2 = crc1 x := by unfold crc1; rw [if_neg (by omega)]; omega
theorem crc1_spec {x : Int} (h : 32768 ≤ x) (h' : x ≤ 65535) : bits .xor .i64 (bits .and .i64 (x * 2) 65535) 4129 = crc1 x := by
  unfold crc1
  rw [if_pos h, and16]
  congr 1
  omega
theorem crc1_spec_low {x : Int} (h0 : 0 ≤ x) (h : x < 32768) : bits .and .i64 (x * 2) 65535 = crc1 x := by
  unfold crc1
  rw [if_neg (by omega), and16]
  omega
def crcN : Nat → Int → Int
  | 0, x => x
  | k + 1, x => crc1 (crcN k x)
theorem crcN_lo {x : Int} (h : 0 ≤ x) (h' : x ≤ 65535) : ∀ k, 0 ≤ crcN k x ∧ crcN k x ≤ 65535
  | 0 => ⟨h, h'⟩
  | k + 1 => crc1_lo (crcN_lo h h' k).1 (crcN_lo h h' k).2
/-- A byte joins the check value. -/
def crcIn (x : Int) (c : Int) : Int := bits .xor .i64 x (c * 256)
theorem crcIn_lo {x c : Int} (h : 0 ≤ x) (h' : x ≤ 65535) (hc : 0 ≤ c) (hc' : c ≤ 255) : 0 ≤ crcIn x c ∧ crcIn x c ≤ 65535 := by
  unfold crcIn
  obtain ⟨n, rfl⟩ := Int.eq_ofNat_of_zero_le h
  obtain ⟨m, rfl⟩ := Int.eq_ofNat_of_zero_le hc
  have h2 : n ^^^ (m * 256) < 2 ^ 16 := Nat.xor_lt_two_pow (by omega) (by omega)
  rw [show (m : Int) * 256 = ((m * 256 : Nat) : Int) by omega, xor_nat _ _ (by omega) (by omega)]
  omega
def byteAt (s : ByteArray) (k : Nat) : Int := if h : k < s.size then (s[k].toNat : Int) else 0
theorem byteAt_lo (s : ByteArray) (k : Nat) : 0 ≤ byteAt s k ∧ byteAt s k ≤ 255 := by
  unfold byteAt
  split
  · rename_i h
    have := s[k].toNat_lt
    omega
  · omega
theorem byteAt_eq (s : ByteArray) (k : Nat) (h : k < s.size) : (s[k].toNat : Int) = byteAt s k := by unfold byteAt; rw [dif_pos h]
/-- The check value of the first k bytes. -/
def crcS (s : ByteArray) (x : Int) : Nat → Int
  | 0 => x
  | k + 1 => crcN 8 (crcIn (crcS s x k) (byteAt s k))
theorem crcS_lo {s : ByteArray} {x : Int} (h : 0 ≤ x) (h' : x ≤ 65535) : ∀ k, 0 ≤ crcS s x k ∧ crcS s x k ≤ 65535
  | 0 => ⟨h, h'⟩
  | k + 1 => by
    have a := crcS_lo (s := s) h h' k
    have b := byteAt_lo s k
    have c := crcIn_lo a.1 a.2 b.1 b.2
    exact crcN_lo c.1 c.2 8

/-- The steps towards the inverse of an odd sample. -/
def inv1 (x y : Int) : Int := wrap32 (y * wrap32 (2 - x * y))
def invN (x : Int) : Nat → Int
  | 0 => x
  | k + 1 => inv1 x (invN x k)
theorem invN_lo {x : Int} (h : -2147483648 ≤ x) (h' : x ≤ 2147483647) : ∀ k, -2147483648 ≤ invN x k ∧ invN x k ≤ 2147483647
  | 0 => ⟨h, h'⟩
  | _ + 1 => ⟨wrap32_lo _, wrap32_hi _⟩
theorem inv1_spec (x y : Int) : wrap32 (y * wrap32 (2 - wrap32 (x * y))) = inv1 x y := by
  unfold inv1
  congr 2
  unfold wrap32
  omega
/-- Odd numbers. -/
def oddB (x : Int) : Bool := x % 2 == 1
theorem odd_impl (x : Int) : (bits .and .i64 x 1 == 1) = oddB x := by rw [and1]; rfl
theorem odd_spec (x : Int) : (x.tmod 2 != 0) = oddB x := by
  unfold oddB
  have h : (0 ≤ x ∧ x.tmod 2 = x % 2) ∨ (x < 0 ∧ x.tmod 2 = -((-x) % 2)) := by
    rcases Int.lt_or_le x 0 with h0 | h0
    · right
      refine ⟨h0, ?_⟩
      rw [← Int.tmod_eq_emod_of_nonneg (show 0 ≤ -x by omega), Int.neg_tmod]
      omega
    · exact .inl ⟨h0, Int.tmod_eq_emod_of_nonneg h0⟩
  rw [Bool.eq_iff_iff]
  simp
  omega

end Go.Proofs.Ytfgdkecmhgkpfaa
