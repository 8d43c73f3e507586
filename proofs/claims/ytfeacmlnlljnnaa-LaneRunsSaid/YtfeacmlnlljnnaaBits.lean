/- Bits of numbers, as the walk spells them. -/
import Derived.Test.YtfeacmlnlljnnaaBase
import Derived.Test.YtfeacmlnlljnnaaModel
namespace Go.Proofs.Ytfeacmlnlljnnaa
open Go Go.RowKit

theorem i64_and_nat (a b : Nat) (ha : a < 9223372036854775808) (hb : b < 9223372036854775808) : Go.bits BinOp.and IntKind.i64 (a : Int) (b : Int) = ((a &&& b : Nat) : Int) := by
  have h1 : a % 18446744073709551616 = a := Nat.mod_eq_of_lt (by omega)
  have h2 : b % 18446744073709551616 = b := Nat.mod_eq_of_lt (by omega)
  have h3 : (a &&& b) ≤ a := Nat.and_le_left
  have e : IntKind.i64.bits = 64 := rfl
  have h4 : IntKind.i64.wrap ((a &&& b : Nat) : Int) = ((a &&& b : Nat) : Int) := IntWalk.i64_in _ (by omega)
  simp [Go.bits, e, h1, h2, h4]

theorem and63 (n : Nat) (h : n < 9223372036854775808) : Go.bits BinOp.and IntKind.i64 (n : Int) 63 = ((n % 64 : Nat) : Int) := by
  have := i64_and_nat n 63 h (by omega)
  rw [show ((63 : Nat) : Int) = 63 from rfl] at this
  rw [this, show n &&& 63 = n % 64 from Nat.and_two_pow_sub_one_eq_mod n 6]

theorem and1 (x : Nat) (h : x < 18446744073709551616) : Go.bits BinOp.and IntKind.u64 (x : Int) 1 = ((x % 2 : Nat) : Int) := by
  have := u64_and_nat x 1 h (by omega)
  rw [show ((1 : Nat) : Int) = 1 from rfl] at this
  rw [this, show x &&& 1 = x % 2 from Nat.and_two_pow_sub_one_eq_mod x 1]

theorem bit_odd (m k : Nat) : (m / 2 ^ k % 2 = 1) = (m.testBit k = true) := by
  rw [Nat.testBit_eq_decide_div_mod_eq]; simp

theorem bit_test (m k : Nat) (hm : m < 18446744073709551616) : (Go.bits BinOp.and IntKind.u64 ((m : Int) / 2 ^ k) 1 == 1) = m.testBit k := by
  have e : ((m : Int) / 2 ^ k) = ((m / 2 ^ k : Nat) : Int) := by simp
  rw [e, and1 _ (Nat.lt_of_le_of_lt (Nat.div_le_self _ _) hm)]
  rw [Bool.eq_iff_iff, beq_iff_eq, ← bit_odd]
  omega
end Go.Proofs.Ytfeacmlnlljnnaa
