/- Plain facts on bits: the masks that the program and the reference use, in plain arithmetic. Conditions: as each fact says. -/
import Derived.Test.YtcmmafkmfahijaaConv
import Derived.Laws.BitsAllLaws
import Derived.WalkKit
namespace Go.Proofs.Ytcmmafkmfahijaa
open Go.RowKit

theorem ofInt_i64 (a : Nat) (ha : a < 18446744073709551616) : (BitVec.ofInt 64 (a : Int)).toNat = a := ofInt_u64 a ha
theorem i64_and_nat (a b : Nat) (ha : a < 9223372036854775808) (hb : b < 9223372036854775808) : bits .and .i64 (a : Int) (b : Int) = ((a &&& b : Nat) : Int) := by
  have h : a &&& b ≤ a := Nat.and_le_left
  show IntKind.i64.wrap ((BitVec.ofInt 64 (a : Int) &&& BitVec.ofInt 64 (b : Int)).toNat : Int) = _
  rw [BitVec.toNat_and, ofInt_i64 _ (by omega), ofInt_i64 _ (by omega)]
  rw [IntKind.wrap_i64]
  generalize a &&& b = c at *
  omega

theorem mask_shift (x m s : Nat) : x &&& (m <<< s) = ((x >>> s) &&& m) <<< s := by
  apply Nat.eq_of_testBit_eq
  intro i
  simp only [Nat.testBit_and, Nat.testBit_shiftLeft, Nat.testBit_shiftRight]
  by_cases h : s ≤ i
  · simp [h]
  · simp [h]

/-- The exponent field. -/
theorem mask_exp (x : Nat) : x &&& 2139095040 = x % 2147483648 / 8388608 * 8388608 := by
  have e : (2139095040 : Nat) = 255 <<< 23 := by decide
  rw [e, mask_shift, Nat.shiftLeft_eq, Nat.shiftRight_eq_div_pow]
  rw [show (255 : Nat) = 2 ^ 8 - 1 from rfl, Nat.and_two_pow_sub_one_eq_mod]
  omega
/-- The sign bit. -/
theorem mask_sign (x : Nat) : x &&& 2147483648 = x / 2147483648 % 2 * 2147483648 := by
  rw [show (2147483648 : Nat) = 2 ^ 31 from rfl, nat_bit]

theorem and_exp (x : Nat) (hx : x < 4294967296) : bits .and .i64 (x : Int) 2139095040 = ((x % 2147483648 / 8388608 * 8388608 : Nat) : Int) := by
  have := i64_and_nat x 2139095040 (by omega) (by omega)
  rw [mask_exp] at this
  exact this
theorem and_sign (x : Nat) (hx : x < 4294967296) : bits .and .i64 (x : Int) 2147483648 = ((x / 2147483648 % 2 * 2147483648 : Nat) : Int) := by
  have := i64_and_nat x 2147483648 (by omega) (by omega)
  rw [mask_sign] at this
  exact this

theorem abs_bits (x : Nat) (hx : x < 18446744073709551616) : (bits .andNot .u64 (x : Int) 9223372036854775808).toNat = rungAt Ieee.double x := by
  have := u64_andNot_nat x 9223372036854775808 hx (by omega)
  have e : x &&& (18446744073709551615 - 9223372036854775808) = x % 9223372036854775808 := Nat.and_two_pow_sub_one_eq_mod x 63
  rw [e] at this
  have t : bits .andNot .u64 (x : Int) 9223372036854775808 = ((x % 9223372036854775808 : Nat) : Int) := this
  rw [t]
  exact Int.toNat_natCast _

theorem sign_test (x : Nat) (hx : x < 18446744073709551616) : decide (wrap64 (x : Int) < 0) = negOf Ieee.double x := by
  unfold negOf wrap64
  rw [double_sign]
  by_cases h : x < 9223372036854775808
  · rw [Nat.div_eq_of_lt h, decide_eq_false (by omega)]; rfl
  · rw [decide_eq_true (by omega)]
    have : x / 9223372036854775808 = 1 := by omega
    rw [this]; rfl

/-- Two words that are no not-a-numbers: equal, with the same sign, just if they are one word. -/
theorem same_word {x y : Nat} (hx : x < 4294967296) (hy : y < 4294967296) (nx : nanB .f32 x = false) (ny : nanB .f32 y = false) :
    (FloatKind.f32.format.order x y == some .eq && negOf Ieee.single x == negOf Ieee.single y) = (x == y) := by
  rw [order_eq, nx, ny]
  simp only [Bool.or_self, Bool.false_eq_true, if_false]
  by_cases h : x = y
  · subst h; rw [cmp_eq rfl]; simp
  · have h' : (x == y) = false := by simpa using h
    rw [h']
    cases hs : (negOf Ieee.single x == negOf Ieee.single y) with
    | false => simp
    | true =>
      have hs' : negOf Ieee.single x = negOf Ieee.single y := by simpa using hs
      rw [Bool.and_true]
      have k : keyOf Ieee.single x ≠ keyOf Ieee.single y := by
        intro e
        apply h
        have w1 := word_of Ieee.single (x := x) hx
        have w2 := word_of Ieee.single (x := y) hy
        unfold keyOf at e
        rw [hs'] at e w1
        have r : rungAt Ieee.single x = rungAt Ieee.single y := by
          cases hn : negOf Ieee.single y <;> rw [hn] at e <;> simp only [sgn, if_true, if_false, Bool.false_eq_true] at e <;> omega
        rw [r, w2] at w1
        exact w1.symm
      rcases Int.lt_trichotomy (keyOf Ieee.single x) (keyOf Ieee.single y) with l | l | l
      · rw [show FloatKind.f32.format = Ieee.single from rfl, cmp_lt l]; rfl
      · exact absurd l k
      · rw [show FloatKind.f32.format = Ieee.single from rfl, cmp_gt l]; rfl
end Go.Proofs.Ytcmmafkmfahijaa
