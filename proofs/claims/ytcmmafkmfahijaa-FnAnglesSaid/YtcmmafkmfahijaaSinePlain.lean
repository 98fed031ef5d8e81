/- Plain facts for the sine: cutting to an integer, integers as numbers, the fraction is at most 1, and the bounds of the series. Conditions: as each fact says. -/
import Derived.Test.YtcmmafkmfahijaaBound
namespace Go.Proofs.Ytcmmafkmfahijaa
open Ieee

theorem Same.num {k : FloatKind} {r x : Nat} (h : Same k r x) (hx : nanB k x = false) : r = x := by
  rcases h with h | ⟨_, h2⟩
  · exact h
  · rw [hx] at h2; cases h2

/-- A whole number of at most 53 digits at a place is written exactly. -/
theorem exact64 {m J : Nat} (hm : m < 9007199254740992) (h1 : 52 ≤ J) (h2 : J ≤ 1990) : rv double (rungOf double m (-1074 + (J : Int))) = m * 2 ^ J ∧ rungOf double m (-1074 + (J : Int)) < double.infRung := by
  by_cases m0 : m = 0
  · subst m0
    refine ⟨?_, by simp [rungOf]; decide⟩
    simp [rungOf, rv_zero]
  · have l1 : m.log2 < 53 := (Nat.log2_lt m0).2 (by omega)
    have l2 : 2 ^ m.log2 ≤ m := Nat.log2_self_le m0
    have l3 : m < 2 ^ (m.log2 + 1) := Nat.lt_log2_self
    obtain ⟨j, hj⟩ : ∃ j, m.log2 + j = 52 := ⟨52 - m.log2, by omega⟩
    have s1 : 4503599627370496 ≤ m * 2 ^ j := by
      have := Nat.mul_le_mul_right (2 ^ j) l2
      rw [← Nat.pow_add, hj] at this
      exact this
    have s2 : m * 2 ^ j < 9007199254740992 := by
      have := Nat.mul_lt_mul_of_pos_right l3 (Nat.two_pow_pos j)
      rw [← Nat.pow_add, show m.log2 + 1 + j = 53 by omega] at this
      exact this
    have hx := rung_exact double (m := m) (sig := m * 2 ^ j) (e := J - j) (p := -1074 + (J : Int)) (by omega) (by rw [double_binade]; omega) (.inr (by rw [double_binade]; omega))
      (by rw [double_binade, double_inf]; omega)
      (by rw [double_least]
          have a1 : ((-1074 : Int) + (J : Int) - (-1074 + ((J - j : Nat) : Int))).toNat = j := by omega
          have a2 : ((-1074 : Int) + ((J - j : Nat) : Int) - (-1074 + (J : Int))).toNat = 0 := by omega
          rw [a1, a2]; simp)
    rw [hx]
    refine ⟨?_, by rw [double_binade, double_inf]; omega⟩
    rw [rv_of double (by rw [double_binade]; omega) (.inr (by rw [double_binade]; omega)), Nat.mul_assoc, ← Nat.pow_add]
    congr 2; omega

theorem natAbs_sgn (s : Bool) (n : Nat) : (sgn s n).natAbs = n := by
  cases s
  · exact Int.natAbs_natCast _
  · exact (Int.natAbs_neg _).trans (Int.natAbs_natCast _)
/-- What is left of a count behind its whole units. -/
theorem frac_abs (s : Bool) {V U : Nat} (hU : 0 < U) : (sgn s V + sgn (!(decide (sgn s (V / U) < 0))) (V / U * U)).natAbs ≤ U := by
  have e := Nat.div_add_mod V U
  have l := Nat.mod_lt V hU
  rw [Nat.mul_comm] at e
  rcases Nat.eq_zero_or_pos (V / U) with h0 | h0
  · rw [h0, Nat.zero_mul] at e ⊢
    cases s <;> simp [sgn] <;> omega
  · generalize V / U = q at *
    generalize hw : q * U = w at *
    cases s
    · have : decide (sgn false q < 0) = false := decide_eq_false (by simp only [sgn, Bool.false_eq_true, if_false]; omega)
      rw [this]; simp only [sgn, Bool.false_eq_true, if_false, Bool.not_false, if_true]; omega
    · have : decide (sgn true q < 0) = true := decide_eq_true (by simp only [sgn, if_true]; omega)
      rw [this]; simp only [sgn, Bool.false_eq_true, if_false, Bool.not_true, if_true]; omega
/-- The units of 64-bit numbers in 1. -/
def unit1 : Nat := 1074
theorem unit1_eq : unit1 = 1074 := rfl

/-- The integer that is left of a number when its places behind the point are cut off. -/
def truncI (y : Nat) : Int := sgn (negOf double y) (rv double (rungAt double y) / 2 ^ unit1)
theorem cut_zero (s : Bool) (n d : Nat) : Toward.zero.cut s n d = n / 2 ^ d := by
  simp only [Toward.cut, Nat.one_shiftLeft, Bool.toNat_false, Nat.add_zero]
  by_cases h : d ≤ n.log2 + 2
  · rw [Nat.min_eq_left h]
  · rw [Nat.min_eq_right (by omega)]
    have l : n < 2 ^ (n.log2 + 1) := Nat.lt_log2_self
    rw [Nat.div_eq_of_lt (Nat.lt_of_lt_of_le l (Nat.pow_le_pow_right (by omega) (by omega))), Nat.div_eq_of_lt (Nat.lt_of_lt_of_le l (Nat.pow_le_pow_right (by omega) (by omega)))]
theorem toInt_trunc {y : Nat} (h : rungAt double y < double.infRung) : (double.read y).toInt .zero = some (truncI y) := by
  have hu := unit1_eq
  obtain ⟨m, j, e, v, _⟩ := read_finite double h
  rw [e]
  simp only [Datum.toInt, Datum.integral, cut_zero, signed_eq, Nat.pow_zero, Nat.mul_one, Nat.shiftLeft_eq]
  congr 1
  unfold truncI
  congr 1
  rw [← v, double_least]
  by_cases hj : unit1 ≤ j
  · have e1 : (-1074 + (j : Int)).toNat = j - unit1 := by omega
    have e2 : (-(-1074 + (j : Int))).toNat = 0 := by omega
    rw [e1, e2, Nat.pow_zero, Nat.div_one]
    have e3 : 2 ^ j = 2 ^ (j - unit1) * 2 ^ unit1 := by rw [← Nat.pow_add]; congr 1; omega
    rw [e3, ← Nat.mul_assoc, Nat.mul_div_cancel _ (Nat.two_pow_pos _)]
  · have e1 : (-1074 + (j : Int)).toNat = 0 := by omega
    have e2 : (-(-1074 + (j : Int))).toNat = unit1 - j := by omega
    rw [e1, e2, Nat.pow_zero, Nat.mul_one]
    have e3 : 2 ^ unit1 = 2 ^ (unit1 - j) * 2 ^ j := by rw [← Nat.pow_add]; congr 1; omega
    rw [e3, Nat.mul_div_mul_right _ _ (Nat.two_pow_pos _)]

/-- Below 2 to the power of 52 the integer fits. -/
theorem trunc_fits {y : Nat} (h : Bd 1075 y) : (truncI y).natAbs ≤ 4503599627370496 ∧ floatToIntVal .f64 y .i64 = some (truncI y) := by
  have hu := unit1_eq
  have hi : rungAt double y < double.infRung := by rw [double_inf]; unfold Bd at h; omega
  obtain ⟨K, hK⟩ : ∃ K : Nat, K = 1075 := ⟨_, rfl⟩
  rw [← hK] at h
  obtain ⟨m, j, e, v, b, _⟩ := bd_read (by omega) (by omega) h
  have hN : rv double (rungAt double y) / 2 ^ unit1 ≤ 4503599627370496 := by
    rw [← v]
    have e4 : 51 + K = 52 + unit1 := by omega
    rw [e4, Nat.pow_add] at b
    generalize 2 ^ unit1 = U at *
    refine Nat.div_le_of_le_mul ?_
    rw [Nat.mul_comm U]; exact b
  have hA : (truncI y).natAbs ≤ 4503599627370496 := by
    unfold truncI; rw [natAbs_sgn]; exact hN
  refine ⟨hA, ?_⟩
  unfold floatToIntVal
  show (match (double.read y).toInt .zero with | some n => if IntKind.min .i64 ≤ n ∧ n ≤ IntKind.max .i64 then some n else none | none => none) = _
  rw [toInt_trunc hi]
  have hmin : IntKind.min .i64 = -9223372036854775808 := by decide
  have hmax : IntKind.max .i64 = 9223372036854775807 := by decide
  simp only [hmin, hmax]
  rw [if_pos (by omega)]

/-- The integer as a number: exactly. -/
theorem ofInt_exact {n : Int} (h : n.natAbs < 9007199254740992) : rungAt double (floatOfInt .f64 n) < double.infRung ∧ rv double (rungAt double (floatOfInt .f64 n)) = n.natAbs * 2 ^ unit1 ∧ negOf double (floatOfInt .f64 n) = decide (n < 0) := by
  have hu := unit1_eq
  obtain ⟨J, hJ⟩ : ∃ J : Nat, J = 1074 := ⟨_, rfl⟩
  have hx := exact64 (J := J) h (by omega) (by omega)
  have e0 : (-1074 + (J : Int)) = 0 := by omega
  rw [e0] at hx
  have hf : floatOfInt .f64 n = double.word (decide (n < 0)) (rungOf double n.natAbs 0) := by
    show double.nearest (decide (n < 0)) n.natAbs 0 = _
    rw [nearest_eq]
  have lt : rungOf double n.natAbs 0 < double.signWeight := Nat.lt_trans hx.2 (by decide)
  rw [hf, rungAt_word _ _ lt, negOf_word _ _ lt]
  refine ⟨hx.2, ?_, rfl⟩
  rw [hx.1, hJ, hu]
theorem ofInt_bd {n : Int} (h : n.natAbs ≤ 4503599627370496) : Bd 1075 (floatOfInt .f64 n) := by
  have hu := unit1_eq
  obtain ⟨h1, h2, _⟩ := ofInt_exact (n := n) (by omega)
  obtain ⟨K, hK⟩ : ∃ K : Nat, K = 1075 := ⟨_, rfl⟩
  have h3 : rv double (rungAt double (floatOfInt .f64 n)) ≤ rv double (K * double.binade) := by
    rw [h2, rv_pow double (by omega)]
    have e : double.fractionBits + K - 1 = unit1 + 52 := by show 52 + K - 1 = _; omega
    rw [e, Nat.pow_add, Nat.mul_comm]
    exact Nat.mul_le_mul_left _ h
  unfold Bd
  rw [← hK, ← double_binade]
  rcases Nat.lt_or_ge (K * double.binade) (rungAt double (floatOfInt .f64 n)) with h4 | h4
  · have := rv_lt double h4; omega
  · exact h4

/-- The sum of two data by the units of the least place. -/
theorem sum_units {s t : Bool} {m n i j : Nat} : (signed s m (i - min i j) + signed t n (j - min i j)).natAbs * 2 ^ min i j = (sgn s (m * 2 ^ i) + sgn t (n * 2 ^ j)).natAbs := by
  have f1 : m * 2 ^ i = m * 2 ^ (i - min i j) * 2 ^ min i j := by rw [Nat.mul_assoc, ← Nat.pow_add]; congr 2; omega
  have f2 : n * 2 ^ j = n * 2 ^ (j - min i j) * 2 ^ min i j := by rw [Nat.mul_assoc, ← Nat.pow_add]; congr 2; omega
  rw [signed_eq, signed_eq]
  rw [f1, f2, sgn_mul s (m * 2 ^ (i - min i j)) (2 ^ min i j), sgn_mul t (n * 2 ^ (j - min i j)) (2 ^ min i j), ← Int.add_mul, Int.natAbs_mul, Int.natAbs_natCast]

/-- The places behind the point: at most 1. -/
theorem frac_bd {y : Nat} (h : Bd 1075 y) : Bd 1023 (fop .sub .f64 y (floatOfInt .f64 (truncI y))) := by
  have hu := unit1_eq
  have hi : rungAt double y < double.infRung := by rw [double_inf]; unfold Bd at h; omega
  obtain ⟨hA, _⟩ := trunc_fits h
  obtain ⟨g1, g2, g3⟩ := ofInt_exact (n := truncI y) (by omega)
  obtain ⟨m, i, e1, v1, _⟩ := read_finite double hi
  obtain ⟨n, j, e2, v2, _⟩ := read_finite double g1
  rw [double_least] at e1 e2
  have hf : floatBits .sub .f64 y (floatOfInt .f64 (truncI y)) = ((Datum.sum (.number (negOf double y) m (-1074 + (i : Int))) (.number (!negOf double (floatOfInt .f64 (truncI y))) n (-1074 + (j : Int)))).map double.write) := by
    show double.sub _ _ = _
    unfold Format.sub
    rw [e1, e2]; rfl
  rw [fop_some (hf.trans rfl)]
  refine (bd_write (by omega) (by omega) ?_).1
  have e0 : min (-1074 + (i : Int)) (-1074 + (j : Int)) = -1074 + ((min i j : Nat) : Int) := by omega
  have e3 : (-1074 + (i : Int) - (-1074 + ((min i j : Nat) : Int))).toNat = i - min i j := by omega
  have e4 : (-1074 + (j : Int) - (-1074 + ((min i j : Nat) : Int))).toNat = j - min i j := by omega
  rw [e0, e3, e4]
  have hb : (signed (negOf double y) m (i - min i j) + signed (!negOf double (floatOfInt .f64 (truncI y))) n (j - min i j)).natAbs * 2 ^ min i j ≤ 2 ^ unit1 := by
    rw [sum_units, v1, v2, g2, g3]
    have hn : (truncI y).natAbs = rv double (rungAt double y) / 2 ^ unit1 := by unfold truncI; rw [natAbs_sgn]
    rw [hn]
    exact frac_abs (negOf double y) (Nat.two_pow_pos unit1)
  have h5 := pow_shift hb
  have e5 : (-1074 + ((min i j : Nat) : Int) - (((1023 : Nat) : Int) - 1023)).toNat = min i j - unit1 := by omega
  have e6 : ((((1023 : Nat) : Int) - 1023) - (-1074 + ((min i j : Nat) : Int))).toNat = unit1 - min i j := by omega
  rw [e5, e6]; exact h5
end Go.Proofs.Ytcmmafkmfahijaa
