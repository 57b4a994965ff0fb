/- General lemmas on exclusive or and on returned integers. No conditions but those that each theorem states. -/
import Derived.WalkKit
namespace Go.Gr
open Go.RowKit
set_option linter.unusedVariables false
theorem ret_int {k : IntKind} {a b : Int} (h : a = b) : Ending.returned (.int k a) = .returned (.int k b) := by rw [h]
theorem ret_bool {a b : Bool} (h : a = b) : Ending.returned (.bool a) = .returned (.bool b) := by rw [h]
theorem ret_int2 {k k' : IntKind} {a b c d : Int} (h : a = b) (h' : c = d) : Ending.returned (.tuple #[.int k a, .int k' c]) = .returned (.tuple #[.int k b, .int k' d]) := by rw [h, h']
theorem nat_xor_ones (a : Nat) (ha : a < 18446744073709551616) : a ^^^ 18446744073709551615 = 18446744073709551615 - a := by
  have h := congrArg BitVec.toNat (BitVec.xor_allOnes (x := BitVec.ofNat 64 a))
  rw [BitVec.toNat_xor, BitVec.toNat_not, BitVec.toNat_allOnes, BitVec.toNat_ofNat, Nat.mod_eq_of_lt (by simpa using ha)] at h
  simpa using h
theorem u64_xor_ones (a : Int) (h0 : 0 ≤ a) (ha : a < 18446744073709551616) : bits .xor .u64 a 18446744073709551615 = 18446744073709551615 - a := by
  have h := u64_xor a 18446744073709551615 h0 ha (by decide) (by decide)
  rw [h, show (18446744073709551615 : Int).toNat = 18446744073709551615 from rfl, nat_xor_ones _ (by omega)]
  omega
theorem u64_xor_zero (a : Int) (h0 : 0 ≤ a) (ha : a < 18446744073709551616) : bits .xor .u64 a 0 = a := by
  rw [u64_xor a 0 h0 ha (by decide) (by decide)]; simp; omega
theorem i64_wrap_of (n : Nat) (h : n < 18446744073709551616) : IntKind.i64.wrap (n : Int) = if n < 9223372036854775808 then (n : Int) else n - 18446744073709551616 := by
  rw [IntKind.wrap_i64]; split <;> omega
theorem i64_xor_mone (a : Int) (h0 : -9223372036854775808 ≤ a) (ha : a < 9223372036854775808) : bits .xor .i64 a (-1) = -a - 1 := by
  simp only [bits]
  show IntKind.i64.wrap ((BitVec.ofInt 64 a ^^^ BitVec.ofInt 64 (-1)).toNat : Int) = _
  rw [BitVec.toNat_xor, show (BitVec.ofInt 64 (-1)).toNat = 18446744073709551615 from rfl, nat_xor_ones _ (BitVec.isLt _), BitVec.toNat_ofInt, IntKind.wrap_i64]
  omega
theorem i64_xor_zero (a : Int) (h0 : -9223372036854775808 ≤ a) (ha : a < 9223372036854775808) : bits .xor .i64 a 0 = a := by
  simp only [bits]
  show IntKind.i64.wrap ((BitVec.ofInt 64 a ^^^ BitVec.ofInt 64 0).toNat : Int) = _
  rw [BitVec.toNat_xor, show (BitVec.ofInt 64 0).toNat = 0 from rfl, Nat.xor_zero, BitVec.toNat_ofInt, IntKind.wrap_i64]
  omega
theorem u64_and1 (a : Int) (h0 : 0 ≤ a) (ha : a < 18446744073709551616) : bits .and .u64 a 1 = a % 2 := by
  rw [u64_and a 1 h0 ha (by decide) (by decide), show (1 : Int).toNat = 1 from rfl, nat_mask1]; omega

end Go.Gr
