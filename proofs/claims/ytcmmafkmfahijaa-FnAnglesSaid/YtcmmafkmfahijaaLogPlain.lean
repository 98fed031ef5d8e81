/- Plain facts for the logarithm and the angle: halves and doubles are exact, 1 and more, quotients of at most 1, square roots of positive numbers. Conditions: as each fact says. -/
import Derived.Test.YtcmmafkmfahijaaSineBoth
namespace Go.Proofs.Ytcmmafkmfahijaa
open Ieee

theorem nearest_word {s : Bool} {m : Nat} {p : Int} {sig e : Nat} (h0 : 0 < sig) (hs : sig < 9007199254740992) (he : e = 0 ∨ 4503599627370496 ≤ sig) (hf : e * 4503599627370496 + sig ≤ 9218868437227405312)
    (hv : m * 2 ^ (p - (-1074 + (e : Int))).toNat = sig * 2 ^ ((-1074 + (e : Int)) - p).toNat) : double.write (.number s m p) = double.word s (e * 4503599627370496 + sig) := by
  show double.nearest s m p = _
  rw [nearest_eq, rung_exact double (m := m) (sig := sig) (e := e) (p := p) h0 (by rw [double_binade]; omega) (by rw [double_binade]; exact he) (by rw [double_binade, double_inf]; exact hf) (by rw [double_least]; exact hv), double_binade]
theorem word_pos (r : Nat) : double.word false r = r := by unfold Format.word; simp
theorem pos_rung {y : Nat} (h : y < 9223372036854775808) : rungAt double y = y := Nat.mod_eq_of_lt h
theorem pos_sign {y : Nat} (h : y < 9223372036854775808) : negOf double y = false := by
  unfold negOf; rw [show double.signWeight = 9223372036854775808 from rfl, Nat.div_eq_of_lt h]; rfl

/-- A positive normal number as a count at a place. -/
theorem read_normal {y : Nat} (h1 : 4503599627370496 ≤ y) (h2 : y < 9218868437227405312) :
    ∃ m j : Nat, double.read y = .number false m (-1074 + (j : Int)) ∧ 4503599627370496 ≤ m ∧ m < 9007199254740992 ∧ j * 4503599627370496 + m = y := by
  have hr := pos_rung (y := y) (by omega)
  obtain ⟨m, j, e, v, hm, hj, hs⟩ := read_finite double (x := y) (by rw [hr, double_inf]; exact h2)
  rw [pos_sign (by omega)] at e
  rw [hr] at hs
  rw [double_binade] at hm hj hs
  have m0 : m ≠ 0 := by
    rintro rfl
    rw [Nat.zero_mul, hr] at v
    have := (rv_inj double (r := y) (q := 0)).1 (by rw [← v, rv_zero])
    omega
  have hs' := hs m0
  rw [double_least] at e
  refine ⟨m, j, e, ?_, by omega, hs'⟩
  rcases hj with rfl | hj
  · omega
  · exact hj
theorem read_two : double.read 4611686018427387904 = .number false 4503599627370496 (-51) := by decide +kernel
theorem double_num {y : Nat} (h1 : 4503599627370496 ≤ y) (h2 : y + 4503599627370496 < 9218868437227405312) : fop .mul .f64 y 4611686018427387904 = y + 4503599627370496 := by
  obtain ⟨m, j, e, a, b, c⟩ := read_normal h1 (by omega)
  have : floatBits .mul .f64 y 4611686018427387904 = some (double.write (.number false (m * 4503599627370496) ((-1074 + (j : Int)) + -51))) := by
    show double.mul _ _ = _
    unfold Format.mul
    rw [e, read_two]; rfl
  have e1 : ((-1074 + (j : Int)) + -51 - (-1074 + ((j + 1 : Nat) : Int))).toNat = 0 := by omega
  have e2 : ((-1074 + ((j + 1 : Nat) : Int)) - ((-1074 + (j : Int)) + -51)).toNat = 52 := by omega
  have hw := nearest_word (s := false) (m := m * 4503599627370496) (p := (-1074 + (j : Int)) + -51) (sig := m) (e := j + 1) (by omega) b (.inr a) (by omega) (by rw [e1, e2, Nat.pow_zero, Nat.mul_one])
  rw [fop_some this, hw, word_pos, ← c, Nat.succ_mul, Nat.add_right_comm]
theorem quot_two {m : Nat} {p : Int} (hm : m.log2 = 52) : Datum.quotient 54 (.number false m p) (.number false 4503599627370496 (-51)) = some (.number false (8 * m) (p - -51 - 54 - 1)) := by
  obtain ⟨B, hB⟩ : ∃ B : Nat, B = 4503599627370496 := ⟨_, rfl⟩
  have hl : Nat.log2 B = 52 := by rw [hB]; decide +kernel
  have hp : 0 < B := by omega
  have h2 : B = 2 ^ 52 := by rw [hB]
  rw [← hB]
  clear hB
  simp only [Datum.quotient, hm, hl]
  rw [if_neg (by omega)]
  have h4 : m <<< (54 + 52 - 52) = B * (4 * m) := by
    rw [Nat.shiftLeft_eq, h2, Nat.mul_comm]
    show 2 ^ 54 * m = _
    rw [show (2 : Nat) ^ 54 = 2 ^ 52 * 4 from rfl, Nat.mul_assoc]
  rw [h4, Nat.mul_div_cancel_left _ hp, Nat.mul_mod_right]
  have e : 2 * (4 * m) + ((0 : Nat) != 0).toNat = 8 * m := by simp; omega
  rw [e]; rfl
theorem half_num {y : Nat} (h1 : 9007199254740992 ≤ y) (h2 : y < 9218868437227405312) : fop .quo .f64 y 4611686018427387904 = y - 4503599627370496 := by
  obtain ⟨m, j, e, a, b, c⟩ := read_normal (by omega) h2
  have hm : m.log2 = 52 := Nat.le_antisymm (Nat.lt_succ_iff.1 ((Nat.log2_lt (by omega)).2 (by omega))) ((Nat.le_log2 (by omega)).2 (by omega))
  have hj : 1 ≤ j := by omega
  have : floatBits .quo .f64 y 4611686018427387904 = some (double.write (.number false (8 * m) (-1074 + (j : Int) - -51 - 54 - 1))) := by
    show double.div _ _ = _
    unfold Format.div
    rw [e, read_two]
    show (Datum.quotient 54 _ _).map double.write = _
    rw [quot_two hm]; rfl
  obtain ⟨i, rfl⟩ : ∃ i, j = i + 1 := ⟨j - 1, by omega⟩
  have e1 : (-1074 + ((i + 1 : Nat) : Int) - -51 - 54 - 1 - (-1074 + (i : Int))).toNat = 0 := by omega
  have e2 : ((-1074 + (i : Int)) - (-1074 + ((i + 1 : Nat) : Int) - -51 - 54 - 1)).toNat = 3 := by omega
  have hw := nearest_word (s := false) (m := 8 * m) (p := -1074 + ((i + 1 : Nat) : Int) - -51 - 54 - 1) (sig := m) (e := i) (by omega) b (.inr a) (by omega) (by rw [e1, e2, Nat.pow_zero, Nat.mul_one, Nat.mul_comm])
  rw [fop_some this, hw, word_pos, ← c, Nat.succ_mul, Nat.add_right_comm, Nat.add_sub_cancel]

/-- x is a finite number of at most 2 to the power of k - 1023, and not negative. -/
def Up (k x : Nat) : Prop := x ≤ k * 4503599627370496
theorem Up.bd {k x : Nat} (hk : k ≤ 2046) (h : Up k x) : Bd k x := by
  unfold Up at h; unfold Bd; rw [pos_rung (by omega)]; exact h
theorem Up.neg {k x : Nat} (hk : k ≤ 2046) (h : Up k x) : negOf double x = false := by
  unfold Up at h; exact pos_sign (by omega)
theorem Up.mono {k l x : Nat} (h : Up k x) (hkl : k ≤ l) : Up l x := Nat.le_trans h (Nat.mul_le_mul_right _ hkl)
theorem up_of {k x : Nat} (hx : x < 18446744073709551616) (h : Bd k x) (hn : negOf double x = false) : Up k x := by
  have : double.word (negOf double x) (rungAt double x) = x := word_of double (by rw [double_sign]; omega)
  rw [hn, word_pos] at this
  unfold Up; unfold Bd at h; omega
theorem write_lt (s : Bool) (m : Nat) (p : Int) : double.write (.number s m p) < 18446744073709551616 := by
  show double.nearest s m p < _
  rw [nearest_eq]
  have l : rungOf double m p ≤ double.infRung := by
    unfold rungOf; split
    · exact Nat.zero_le _
    · exact Nat.min_le_right _ _
  exact Format.word_lt double s (Nat.lt_of_le_of_lt l (by decide))

/-- The sum of 1 and a number that is not negative: at least 1. -/
theorem sum_one {m : Nat} {j : Nat} {k : Nat} (hk1 : 1023 ≤ k) (hk : k ≤ 2045) (hm : m * 2 ^ j ≤ 2 ^ (51 + k)) {d : Datum}
    (hd : Datum.sum (.number false m (-1074 + (j : Int))) (.number false 4503599627370496 (-52)) = some d ∨ Datum.sum (.number false 4503599627370496 (-52)) (.number false m (-1074 + (j : Int))) = some d) :
    Up (k + 1) (double.write d) ∧ Lo 1023 (double.write d) := by
  obtain ⟨J, hJ⟩ : ∃ J : Nat, J = 1022 := ⟨_, rfl⟩
  have hp : (-52 : Int) = -1074 + (J : Int) := by omega
  have key : ∀ n i : Nat, (d = .number false n (-1074 + (i : Int))) → n * 2 ^ i = m * 2 ^ j + 4503599627370496 * 2 ^ J → Up (k + 1) (double.write d) ∧ Lo 1023 (double.write d) := by
    rintro n i rfl hv
    have hlow : 4503599627370496 * 2 ^ J ≤ n * 2 ^ i := by omega
    have hhigh : n * 2 ^ i ≤ 2 ^ (52 + k) := by
      have e : 4503599627370496 * 2 ^ J ≤ 2 ^ (51 + k) := by
        rw [show 4503599627370496 = 2 ^ 52 from rfl, ← Nat.pow_add]; exact Nat.pow_le_pow_right (by omega) (by omega)
      have e2 : 2 ^ (52 + k) = 2 ^ (51 + k) + 2 ^ (51 + k) := by rw [show 52 + k = (51 + k) + 1 by omega, Nat.pow_succ]; omega
      omega
    have n0 : n ≠ 0 := by
      rintro rfl
      have := Nat.mul_pos (show 0 < 4503599627370496 by omega) (Nat.two_pow_pos J)
      omega
    have hb := bd_write (s := false) (m := n) (p := -1074 + (i : Int)) (k := k + 1) (by omega) (by omega) (by
      have := pow_shift hhigh
      have e3 : (-1074 + (i : Int) - (((k + 1 : Nat) : Int) - 1023)).toNat = i - (52 + k) := by omega
      have e4 : ((((k + 1 : Nat) : Int) - 1023) - (-1074 + (i : Int))).toNat = 52 + k - i := by omega
      rw [e3, e4]; exact this)
    have hlog : J + 52 ≤ i + n.log2 := by
      have l : n < 2 ^ (n.log2 + 1) := Nat.lt_log2_self
      have h1 : 2 ^ (52 + J) < 2 ^ (n.log2 + 1 + i) := by
        rw [Nat.pow_add 2 (n.log2 + 1) i]
        refine Nat.lt_of_le_of_lt ?_ (Nat.mul_lt_mul_of_pos_right l (Nat.two_pow_pos i))
        rw [Nat.pow_add]; exact hlow
      have := (Nat.pow_lt_pow_iff_right (by omega)).1 h1
      omega
    have hlo := le_rung double (m := n) (p := -1074 + (i : Int)) (k := 1023) n0 (by omega) (by decide) (by
      rw [double_least]
      have : double.fractionBits + 1023 - 1 = J + 52 := by show 52 + 1023 - 1 = _; omega
      rw [this]; omega)
    have hr : rungAt double (double.write (.number false n (-1074 + (i : Int)))) = rungOf double n (-1074 + (i : Int)) := by
      show rungAt double (double.nearest _ _ _) = _
      rw [nearest_eq]
      refine rungAt_word _ _ ?_
      have l : rungOf double n (-1074 + (i : Int)) ≤ double.infRung := by
        unfold rungOf; split
        · exact Nat.zero_le _
        · exact Nat.min_le_right _ _
      exact Nat.lt_of_le_of_lt l (by decide)
    refine ⟨up_of (write_lt _ _ _) hb.1 hb.2, ?_, ?_⟩
    · rw [hr]; rw [double_binade] at hlo; exact hlo
    · have := hb.1; unfold Bd at this; omega
  have f1 : m * 2 ^ j = m * 2 ^ (j - min j J) * 2 ^ min j J := by rw [Nat.mul_assoc, ← Nat.pow_add]; congr 2; omega
  have f2 : 4503599627370496 * 2 ^ J = 4503599627370496 * 2 ^ (J - min j J) * 2 ^ min j J := by rw [Nat.mul_assoc, ← Nat.pow_add]; congr 2; omega
  rcases hd with hd | hd
  · rw [hp] at hd
    have e0 : min (-1074 + (j : Int)) (-1074 + (J : Int)) = -1074 + ((min j J : Nat) : Int) := by omega
    have e1 : (-1074 + (j : Int) - (-1074 + ((min j J : Nat) : Int))).toNat = j - min j J := by omega
    have e2 : (-1074 + (J : Int) - (-1074 + ((min j J : Nat) : Int))).toNat = J - min j J := by omega
    have hs : signed false m (j - min j J) + signed false 4503599627370496 (J - min j J) = ((m * 2 ^ (j - min j J) + 4503599627370496 * 2 ^ (J - min j J) : Nat) : Int) := by
      rw [signed_eq, signed_eq]; simp [sgn]
    have hpos : (m * 2 ^ (j - min j J) + 4503599627370496 * 2 ^ (J - min j J) : Nat) ≠ 0 := by
      have := Nat.mul_pos (show 0 < 4503599627370496 by omega) (Nat.two_pow_pos (J - min j J)); omega
    simp only [Datum.sum, e0, e1, e2, hs, Option.some.injEq] at hd
    rw [if_neg (by omega)] at hd
    refine key (m * 2 ^ (j - min j J) + 4503599627370496 * 2 ^ (J - min j J)) (min j J) ?_ ?_
    · rw [← hd, Int.natAbs_natCast]
      congr 1
    · rw [f1, f2, Nat.add_mul]
  · rw [hp] at hd
    have e0 : min (-1074 + (J : Int)) (-1074 + (j : Int)) = -1074 + ((min j J : Nat) : Int) := by omega
    have e1 : (-1074 + (j : Int) - (-1074 + ((min j J : Nat) : Int))).toNat = j - min j J := by omega
    have e2 : (-1074 + (J : Int) - (-1074 + ((min j J : Nat) : Int))).toNat = J - min j J := by omega
    have hs : signed false 4503599627370496 (J - min j J) + signed false m (j - min j J) = ((m * 2 ^ (j - min j J) + 4503599627370496 * 2 ^ (J - min j J) : Nat) : Int) := by
      rw [signed_eq, signed_eq]; simp [sgn]; omega
    have hpos : (m * 2 ^ (j - min j J) + 4503599627370496 * 2 ^ (J - min j J) : Nat) ≠ 0 := by
      have := Nat.mul_pos (show 0 < 4503599627370496 by omega) (Nat.two_pow_pos (J - min j J)); omega
    simp only [Datum.sum, e0, e1, e2, hs, Option.some.injEq] at hd
    rw [if_neg (by omega)] at hd
    refine key (m * 2 ^ (j - min j J) + 4503599627370496 * 2 ^ (J - min j J)) (min j J) ?_ ?_
    · rw [← hd, Int.natAbs_natCast]
      congr 1
    · rw [f1, f2, Nat.add_mul]
theorem read_one : double.read 4607182418800017408 = .number false 4503599627370496 (-52) := by decide +kernel
theorem up_read {k x : Nat} (hk1 : 1 ≤ k) (hk : k ≤ 2046) (h : Up k x) : ∃ (m j : Nat), double.read x = .number false m (-1074 + (j : Int)) ∧ m * 2 ^ j ≤ 2 ^ (51 + k) ∧ m * 2 ^ j = rv double x ∧ m < 9007199254740992 := by
  obtain ⟨m, j, e, v, b, b53, _⟩ := bd_read hk1 hk (h.bd hk)
  rw [h.neg hk] at e
  refine ⟨m, j, e, b, ?_, b53⟩
  rw [v, pos_rung]; unfold Up at h; omega
theorem up_one {k x : Nat} (hk1 : 1023 ≤ k) (hk : k ≤ 2045) (h : Up k x) : Up (k + 1) (fop .add .f64 x 4607182418800017408) ∧ Lo 1023 (fop .add .f64 x 4607182418800017408) := by
  obtain ⟨m, j, e, b, _, _⟩ := up_read (by omega) (by omega) h
  have : floatBits .add .f64 x 4607182418800017408 = (Datum.sum (.number false m (-1074 + (j : Int))) (.number false 4503599627370496 (-52))).map double.write := by
    show double.add _ _ = _
    unfold Format.add
    rw [e, read_one]
  rw [fop_some (this.trans rfl)]
  exact sum_one hk1 hk b (.inl rfl)
theorem one_up {k x : Nat} (hk1 : 1023 ≤ k) (hk : k ≤ 2045) (h : Up k x) : Up (k + 1) (fop .add .f64 4607182418800017408 x) ∧ Lo 1023 (fop .add .f64 4607182418800017408 x) := by
  obtain ⟨m, j, e, b, _, _⟩ := up_read (by omega) (by omega) h
  have : floatBits .add .f64 4607182418800017408 x = (Datum.sum (.number false 4503599627370496 (-52)) (.number false m (-1074 + (j : Int)))).map double.write := by
    show double.add _ _ = _
    unfold Format.add
    rw [e, read_one]
  rw [fop_some (this.trans rfl)]
  exact sum_one hk1 hk b (.inr rfl)

/-- A square is not negative. -/
theorem up_square {a c x : Nat} (ha : 1 ≤ a) (ha2 : a ≤ 2046) (hc : 1 ≤ c) (hc2 : c ≤ 2046) (habc : a + a ≤ c + 1023) (hx : Bd a x) : Up c (fop .mul .f64 x x) := by
  have hb := bd_mul ha ha2 ha ha2 hc hc2 habc hx hx
  obtain ⟨m, i, e1, _, b1, _⟩ := bd_read ha ha2 hx
  have : floatBits .mul .f64 x x = some (double.write (.number (negOf double x ^^ negOf double x) (m * m) ((-1074 + (i : Int)) + (-1074 + (i : Int))))) := by
    show double.mul x x = _
    unfold Format.mul
    rw [e1]; rfl
  rw [fop_some this] at hb ⊢
  rw [Bool.xor_self] at hb ⊢
  refine up_of (write_lt _ _ _) hb ?_
  have l : rungOf double (m * m) ((-1074 + (i : Int)) + (-1074 + (i : Int))) ≤ double.infRung := by
    unfold rungOf; split
    · exact Nat.zero_le _
    · exact Nat.min_le_right _ _
  show negOf double (double.nearest _ _ _) = false
  rw [nearest_eq, negOf_word _ _ (Nat.lt_of_le_of_lt l (by decide))]

/-- The root of a number that is not negative. -/
theorem up_root {k x : Nat} (hk1 : 1 ≤ k) (hk : k ≤ 1151) (h : Up k x) : Up 1150 (fsq x) := by
  have hn : ∀ d, Datum.root 54 (double.read x) = some d → ∃ m p, d = .number false m p := by
    obtain ⟨m, j, e, _⟩ := up_read hk1 (by omega) h
    rw [e]
    unfold Datum.root
    dsimp only
    intro d hd
    split at hd
    · exact ⟨_, _, (Option.some.inj hd).symm⟩
    · simp only [Bool.false_eq_true, if_false] at hd
      exact ⟨_, _, (Option.some.inj hd).symm⟩
  have hs : ∃ d, Datum.root 54 (double.read x) = some d := by
    obtain ⟨m, j, e, _⟩ := up_read hk1 (by omega) h
    rw [e]
    unfold Datum.root
    dsimp only
    split
    · exact ⟨_, rfl⟩
    · simp only [Bool.false_eq_true, if_false]; exact ⟨_, rfl⟩
  obtain ⟨d, hd⟩ := hs
  obtain ⟨m, p, rfl⟩ := hn d hd
  have hf : fsq x = double.write (.number false m p) := by
    unfold fsq Format.sqrt
    show ((Datum.root 54 (double.read x)).map double.write).getD _ = _
    rw [hd]; rfl
  have l : rungOf double m p ≤ double.infRung := by
    unfold rungOf; split
    · exact Nat.zero_le _
    · exact Nat.min_le_right _ _
  have hneg : negOf double (double.write (.number false m p)) = false := by
    show negOf double (double.nearest _ _ _) = false
    rw [nearest_eq, negOf_word _ _ (Nat.lt_of_le_of_lt l (by decide))]
  have hrung : rungAt double (double.write (.number false m p)) ≤ double.infRung := by
    show rungAt double (double.nearest _ _ _) ≤ _
    rw [nearest_eq, rungAt_word _ _ (Nat.lt_of_le_of_lt l (by decide))]; exact l
  rcases root_bd hk1 hk (h.bd (by omega)) with h1 | h1
  · rw [hf, nanB_of_rung (k := .f64) hrung] at h1; cases h1
  · rw [hf] at h1 ⊢
    exact up_of (write_lt _ _ _) h1 hneg

/-- The quotient of a number by one that is not less: at most 1. -/
theorem quo_count {m n i j S E : Nat} (hv : m * 2 ^ i ≤ n * 2 ^ j) (n0 : n ≠ 0) (hE : E + i = S + j) : 2 * (m <<< S / n) + (m <<< S % n != 0).toNat ≤ 2 ^ (E + 1) := by
  have hM : m <<< S ≤ n * 2 ^ E := by
    rw [Nat.shiftLeft_eq]
    have h2 : m * 2 ^ S * 2 ^ i ≤ n * 2 ^ E * 2 ^ i := by
      rw [Nat.mul_assoc n, ← Nat.pow_add, hE, Nat.add_comm S j, Nat.pow_add, ← Nat.mul_assoc, Nat.mul_assoc m, Nat.mul_comm (2 ^ S), ← Nat.mul_assoc]
      exact Nat.mul_le_mul_right _ hv
    exact Nat.le_of_mul_le_mul_right h2 (Nat.two_pow_pos i)
  rw [Nat.pow_succ]
  generalize m <<< S = M at *
  generalize 2 ^ E = P at *
  have hq : M / n ≤ P := by
    have := Nat.div_le_div_right (c := n) hM
    rwa [Nat.mul_div_cancel_left _ (by omega)] at this
  have e := Nat.div_add_mod M n
  by_cases hqe : M / n = P
  · have hr : M % n = 0 := by rw [hqe] at e; omega
    rw [hr, hqe]; simp; omega
  · have := Bool.toNat_le (M % n != 0)
    omega
theorem up_quo {x y : Nat} (hx : Up 2046 x) (hy : Up 2046 y) (hxy : x ≤ y) (hy0 : y ≠ 0) : Up 1023 (fop .quo .f64 x y) := by
  obtain ⟨K, hK⟩ : ∃ K : Nat, K = 2046 := ⟨_, rfl⟩
  rw [← hK] at hx hy
  obtain ⟨m, i, e1, _, v1, m53⟩ := up_read (by omega) (by omega) hx
  obtain ⟨n, j, e2, _, v2, _⟩ := up_read (by omega) (by omega) hy
  have hv := rv_mono double hxy
  rw [← v1, ← v2] at hv
  have n0 : n ≠ 0 := by
    rintro rfl
    rw [Nat.zero_mul] at v2
    exact hy0 ((rv_inj double).1 (by rw [← v2, rv_zero]))
  have ml : m.log2 ≤ 52 := by
    by_cases m0 : m = 0
    · subst m0; decide
    · exact Nat.lt_succ_iff.1 ((Nat.log2_lt m0).2 (by omega))
  have : floatBits .quo .f64 x y = some (double.write (.number false (2 * (m <<< (54 + n.log2 - m.log2) / n) + (m <<< (54 + n.log2 - m.log2) % n != 0).toNat) ((-1074 + (i : Int)) - (-1074 + (j : Int)) - (54 + n.log2 - m.log2 : Nat) - 1))) := by
    show double.div x y = _
    unfold Format.div
    rw [e1, e2]
    show (Datum.quotient 54 _ _).map double.write = _
    simp only [Datum.quotient, if_neg n0, Option.map_some]
    rfl
  rw [fop_some this]
  generalize hS : 54 + n.log2 - m.log2 = S
  have hc : (2 * (m <<< S / n) + (m <<< S % n != 0).toNat) * 2 ^ ((-1074 + (i : Int)) - (-1074 + (j : Int)) - (S : Nat) - 1 - (((1023 : Nat) : Int) - 1023)).toNat ≤ 2 ^ ((((1023 : Nat) : Int) - 1023) - ((-1074 + (i : Int)) - (-1074 + (j : Int)) - (S : Nat) - 1)).toNat := by
    by_cases m0 : m = 0
    · subst m0
      have : (2 * (0 <<< S / n) + (0 <<< S % n != 0).toNat) = 0 := by simp
      rw [this, Nat.zero_mul]; exact Nat.zero_le _
    · have hl : m.log2 + i ≤ n.log2 + j := by
        have l1 : 2 ^ m.log2 ≤ m := Nat.log2_self_le (by omega)
        have l2 : n < 2 ^ (n.log2 + 1) := Nat.lt_log2_self
        have h1 : 2 ^ (m.log2 + i) < 2 ^ (n.log2 + 1 + j) := by
          rw [Nat.pow_add 2 (n.log2 + 1) j, Nat.pow_add]
          exact Nat.lt_of_le_of_lt (Nat.le_trans (Nat.mul_le_mul_right _ l1) hv) (Nat.mul_lt_mul_of_pos_right l2 (Nat.two_pow_pos j))
        have := (Nat.pow_lt_pow_iff_right (by omega)).1 h1
        omega
      have := quo_count (S := S) (E := S + j - i) hv n0 (by omega)
      have e3 : ((-1074 + (i : Int)) - (-1074 + (j : Int)) - (S : Nat) - 1 - (((1023 : Nat) : Int) - 1023)).toNat = 0 := by omega
      have e4 : ((((1023 : Nat) : Int) - 1023) - ((-1074 + (i : Int)) - (-1074 + (j : Int)) - (S : Nat) - 1)).toNat = S + j - i + 1 := by omega
      rw [e3, e4, Nat.pow_zero, Nat.mul_one]; exact this
  obtain ⟨b1, b2⟩ := bd_write (s := false) (k := 1023) (by omega) (by omega) hc
  exact up_of (write_lt _ _ _) b1 b2
end Go.Proofs.Ytcmmafkmfahijaa
