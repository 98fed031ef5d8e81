/- Plain facts on widening a 32-bit number to 64 bits, on the test x - x == 0, and on the sign. Conditions: as each fact says. -/
import Derived.Test.YtcmmafkmfahijaaOrder
namespace Go.Proofs.Ytcmmafkmfahijaa
open Ieee

theorem single_binade : single.binade = 8388608 := rfl
theorem single_inf : single.infRung = 2139095040 := rfl
theorem single_sign : single.signWeight = 2147483648 := rfl
theorem single_least : single.leastPlace = -149 := rfl
theorem double_binade : double.binade = 4503599627370496 := rfl
theorem double_inf : double.infRung = 9218868437227405312 := rfl
theorem double_sign : double.signWeight = 9223372036854775808 := rfl
theorem double_least : double.leastPlace = -1074 := rfl

theorem rungAt_word (f : Format) (s : Bool) {r : Nat} (h : r < f.signWeight) : rungAt f (f.word s r) = r := by
  unfold rungAt Format.word
  split
  · rw [Nat.add_mod_left, Nat.mod_eq_of_lt h]
  · rw [Nat.mod_eq_of_lt h]
theorem negOf_word (f : Format) (s : Bool) {r : Nat} (h : r < f.signWeight) : negOf f (f.word s r) = s := by
  unfold negOf Format.word
  cases s
  · simp only [Bool.false_eq_true, if_false]; rw [Nat.div_eq_of_lt h]; rfl
  · simp only [if_true]; rw [Nat.add_div_left _ (by omega), Nat.div_eq_of_lt h]; rfl

/-- A word is that of its sign and its rung. -/
theorem word_of (f : Format) {x : Nat} (h : x < 2 * f.signWeight) : f.word (negOf f x) (rungAt f x) = x := by
  unfold Format.word negOf rungAt
  have hs : 0 < f.signWeight := Nat.two_pow_pos _
  have e := Nat.div_add_mod x f.signWeight
  have q : x / f.signWeight < 2 := (Nat.div_lt_iff_lt_mul hs).2 h
  have two : ∀ d : Nat, d < 2 → d = 0 ∨ d = 1 := by omega
  rcases two _ q with q | q
  · rw [q] at e ⊢; simp; omega
  · rw [q] at e ⊢; simp; omega

theorem rv_of (f : Format) {sig e : Nat} (hs : sig < 2 * f.binade) (he : e = 0 ∨ f.binade ≤ sig) : rv f (e * f.binade + sig) = sig * 2 ^ e := by
  have hb := binade_pos f
  unfold rv
  generalize f.binade = B at *
  rcases Nat.eq_zero_or_pos e with rfl | h0
  · rw [Nat.zero_mul, Nat.zero_add]
    split
    · simp
    · rw [Nat.mod_eq_sub_mod (by omega), Nat.mod_eq_of_lt (by omega)]
      have : sig / B = 1 := by rw [Nat.div_eq_sub_div hb (by omega), Nat.div_eq_of_lt (by omega)]
      rw [this]; simp; omega
  · have hB : B ≤ sig := by omega
    have h2 := Nat.mul_le_mul_right B h0
    rw [if_neg (by omega)]
    have e1 : e * B + sig = (sig - B) + B * (e + 1) := by rw [Nat.mul_add, Nat.mul_comm B e]; omega
    rw [e1, Nat.add_mul_mod_self_left, Nat.add_mul_div_left _ _ hb, Nat.mod_eq_of_lt (by omega), Nat.div_eq_of_lt (by omega)]
    congr 1
    · omega
    · congr 1; omega

/-- How many places the least place of 64 bits lies below that of 32 bits. -/
def sc : Nat := 925
theorem sc_eq : sc = 925 := rfl

/-- THE WIDENED NUMBER: a finite 32-bit number has a 64-bit one of the same sign and the same value. -/
theorem wide_finite {x : Nat} (h : rungAt single x < single.infRung) :
    ∃ r, floatToFloatBits .f32 x .f64 = some r ∧ negOf double r = negOf single x ∧ rungAt double r < double.infRung ∧ rv double (rungAt double r) = rv single (rungAt single x) * 2 ^ sc ∧ r < 2 ^ 64 := by
  have hsc := sc_eq
  obtain ⟨m, k, e1, v1, hm, hk, hr⟩ := read_finite single h
  have key : ∃ q, rungOf double m (single.leastPlace + k) = q ∧ q < double.infRung ∧ rv double q = rv single (rungAt single x) * 2 ^ sc := by
    by_cases m0 : m = 0
    · subst m0
      refine ⟨0, by simp [rungOf], by decide, ?_⟩
      rw [rv_zero, ← v1]; simp
    · have l1 : m.log2 < 24 := (Nat.log2_lt m0).2 (by rw [single_binade] at hm; omega)
      have l2 : 2 ^ m.log2 ≤ m := Nat.log2_self_le m0
      have l3 : m < 2 ^ (m.log2 + 1) := Nat.lt_log2_self
      obtain ⟨j, hj⟩ : ∃ j, m.log2 + j = 52 := ⟨52 - m.log2, by omega⟩
      have s1 : 4503599627370496 ≤ m * 2 ^ j := by
        have := Nat.mul_le_mul_right (2 ^ j) l2
        rw [← Nat.pow_add, hj] at this
        exact this
      have s2 : m * 2 ^ j < 9007199254740992 := by
        have := Nat.mul_lt_mul_of_pos_right l3 (Nat.two_pow_pos j)
        rw [← Nat.pow_add, show m.log2 + 1 + j = 53 by omega] at this
        exact this
      have hrr := hr m0
      rw [single_binade] at hrr
      rw [single_inf] at h
      have hk1 : k ≤ 254 := by omega
      have hj1 : j ≤ 52 := by omega
      have hx := rung_exact double (m := m) (sig := m * 2 ^ j) (e := k + sc - j) (p := single.leastPlace + k) (by omega) (by rw [double_binade]; omega) (.inr (by rw [double_binade]; omega))
        (by rw [double_binade, double_inf]; omega)
        (by rw [single_least, double_least]
            have a1 : ((-149 : Int) + (k : Int) - (-1074 + ((k + sc - j : Nat) : Int))).toNat = j := by omega
            have a2 : ((-1074 : Int) + ((k + sc - j : Nat) : Int) - (-149 + (k : Int))).toNat = 0 := by omega
            rw [a1, a2]; simp)
      refine ⟨_, hx, by rw [double_binade, double_inf]; omega, ?_⟩
      rw [rv_of double (by rw [double_binade]; omega) (.inr (by rw [double_binade]; omega)), ← v1, Nat.mul_assoc, Nat.mul_assoc, ← Nat.pow_add, ← Nat.pow_add]
      congr 2; omega
  obtain ⟨q, hq, hq1, hq2⟩ := key
  have hlt : q < double.signWeight := Nat.lt_trans hq1 (by decide)
  have hw : double.write (.number (negOf single x) m (single.leastPlace + k)) = double.word (negOf single x) q := by
    show double.nearest _ _ _ = _
    rw [nearest_eq, hq]
  have hinf : (double.read (double.word (negOf single x) q)).isInfinity = false := by
    obtain ⟨m', k', e', _⟩ := read_finite double (x := double.word (negOf single x) q) (by rw [rungAt_word _ _ hlt]; exact hq1)
    rw [e']; rfl
  refine ⟨double.word (negOf single x) q, ?_, negOf_word _ _ hlt, by rw [rungAt_word _ _ hlt]; exact hq1, by rw [rungAt_word _ _ hlt]; exact hq2, Format.word_lt double _ hlt⟩
  unfold floatToFloatBits
  rw [if_neg (by decide)]
  show (match single.read x with | .nan _ _ => none | .infinity s => some (double.write (.infinity s)) | .number s m e => if (double.read (double.write (.number s m e))).isInfinity then none else some (double.write (.number s m e))) = _
  rw [e1]
  simp only [hw, hinf]
  rfl

theorem wide_inf {x : Nat} (h : rungAt single x = single.infRung) : floatToFloatBits .f32 x .f64 = some (double.word (negOf single x) double.infRung) := by
  unfold floatToFloatBits
  rw [if_neg (by decide)]
  show (match single.read x with | .nan _ _ => none | .infinity s => some (double.write (.infinity s)) | .number s m e => if (double.read (double.write (.number s m e))).isInfinity then none else some (double.write (.number s m e))) = _
  rw [read_inf single (by decide) h]
  rfl

theorem wide_nan {x : Nat} (h : nanB .f32 x = true) : floatToFloatBits .f32 x .f64 = none := by
  unfold floatToFloatBits
  rw [if_neg (by decide)]
  have h' : (single.read x).isNaN = true := h
  show (match single.read x with | .nan _ _ => none | .infinity s => some (double.write (.infinity s)) | .number s m e => if (double.read (double.write (.number s m e))).isInfinity then none else some (double.write (.number s m e))) = _
  generalize single.read x = d at *
  cases d <;> simp [Datum.isNaN] at h'
  rfl

/-- The widened number as a plain function. -/
def cv (x : Nat) : Nat := (floatToFloatBits .f32 x .f64).getD (cnan .f64)

theorem cases32 (x : Nat) : nanB .f32 x = true ∨ (nanB .f32 x = false ∧ rungAt single x < single.infRung) ∨ (nanB .f32 x = false ∧ rungAt single x = single.infRung) := by
  cases h : nanB .f32 x with
  | true => exact .inl rfl
  | false =>
    have := le_of_not_nan h
    have h2 : rungAt single x ≤ single.infRung := this
    rcases Nat.lt_or_eq_of_le h2 with h3 | h3
    · exact .inr (.inl ⟨rfl, h3⟩)
    · exact .inr (.inr ⟨rfl, h3⟩)

theorem cv_finite {x : Nat} (h : rungAt single x < single.infRung) : negOf double (cv x) = negOf single x ∧ rungAt double (cv x) < double.infRung ∧ rv double (rungAt double (cv x)) = rv single (rungAt single x) * 2 ^ sc ∧ cv x < 2 ^ 64 := by
  obtain ⟨r, h1, h2⟩ := wide_finite h
  unfold cv; rw [h1]; exact h2
theorem cv_inf {x : Nat} (h : rungAt single x = single.infRung) : cv x = double.word (negOf single x) double.infRung := by
  unfold cv; rw [wide_inf h]; rfl
theorem cv_nan {x : Nat} (h : nanB .f32 x = true) : cv x = cnan .f64 := by
  unfold cv; rw [wide_nan h]; rfl
theorem nanB_of_rung {k : FloatKind} {x : Nat} (h : rungAt k.format x ≤ k.format.infRung) : nanB k x = false := by
  rw [nanB_eq, decide_eq_false_iff_not]; unfold rungAt at h; omega
theorem nanB_cv (x : Nat) : nanB .f64 (cv x) = nanB .f32 x := by
  rcases cases32 x with h | ⟨h, h1⟩ | ⟨h, h1⟩
  · rw [cv_nan h, h]; exact cnan_nan _
  · rw [h]; exact nanB_of_rung (k := .f64) (Nat.le_of_lt (cv_finite h1).2.1)
  · rw [h, cv_inf h1]; exact nanB_of_rung (k := .f64) (by rw [show FloatKind.f64.format = double from rfl, rungAt_word _ _ (by decide)]; exact Nat.le_refl _)

theorem cval_wide {x x' : Nat} (w : World) (h : Same .f32 x x') : Same .f64 (cval .f32 x .f64 w) (cv x') := by
  have hn : nanB .f32 x = true → nanB .f32 x' = true → Same .f64 (cval .f32 x .f64 w) (cv x') := fun h1 h2 => by
    refine .inr ⟨?_, by rw [nanB_cv]; exact h2⟩
    unfold cval; rw [wide_nan h1, if_pos h1, Option.getD_none]; exact cut_nanConv .f64 x _
  rcases h with rfl | ⟨h1, h2⟩
  · rcases cases32 x with h | ⟨_, h1⟩ | ⟨_, h1⟩
    · exact hn h h
    · obtain ⟨r, e, _⟩ := wide_finite h1
      unfold cval cv; rw [e]; exact .inl rfl
    · unfold cval cv; rw [wide_inf h1]; exact .inl rfl
  · exact hn h1 h2
theorem cv_same {x x' : Nat} (h : Same .f32 x x') : Same .f64 (cv x) (cv x') := by
  rcases h with rfl | ⟨h1, h2⟩
  · exact .inl rfl
  · rw [cv_nan h1, cv_nan h2]; exact .inl rfl

/-- WIDENING KEEPS THE ORDER. -/
theorem order_cv (x y : Nat) : double.order (cv x) (cv y) = single.order x y := by
  have L := order_eq .f64 (cv x) (cv y)
  have R := order_eq .f32 x y
  rw [nanB_cv, nanB_cv] at L
  show FloatKind.f64.format.order (cv x) (cv y) = FloatKind.f32.format.order x y
  rw [L, R]
  cases hx : nanB .f32 x with
  | true => rfl
  | false =>
    cases hy : nanB .f32 y with
    | true => rfl
    | false =>
      simp only [Bool.or_self, Bool.false_eq_true, if_false]
      congr 1
      show compare (keyOf double (cv x)) (keyOf double (cv y)) = compare (keyOf single x) (keyOf single y)
      unfold keyOf
      have p : 0 < 2 ^ sc := Nat.two_pow_pos _
      rcases cases32 x with h | ⟨_, h1⟩ | ⟨_, h1⟩
      · rw [h] at hx; cases hx
      · obtain ⟨a1, a2, a3, _⟩ := cv_finite h1
        rcases cases32 y with h | ⟨_, g1⟩ | ⟨_, g1⟩
        · rw [h] at hy; cases hy
        · obtain ⟨b1, b2, b3, _⟩ := cv_finite g1
          rw [← cmp_sgn double (negOf double (cv x)) (negOf double (cv y)) (rungAt double (cv x)) (rungAt double (cv y)), ← cmp_sgn single (negOf single x) (negOf single y) (rungAt single x) (rungAt single y), a3, b3, a1, b1, sgn_mul, sgn_mul]
          have hp : (0 : Int) < ((2 ^ sc : Nat) : Int) := by omega
          exact cmp_congr ⟨fun h => Int.lt_of_mul_lt_mul_right h (Int.le_of_lt hp), fun h => Int.mul_lt_mul_of_pos_right h hp⟩ ⟨fun h => Int.eq_of_mul_eq_mul_right (by omega) h, fun h => by rw [h]⟩
        · rw [cv_inf g1, negOf_word _ _ (by decide), rungAt_word _ _ (by decide), g1, a1]
          cases negOf single x <;> cases negOf single y <;> simp only [sgn, if_true, if_false, Bool.false_eq_true] <;> first | rw [cmp_lt (by omega), cmp_lt (by omega)] | rw [cmp_gt (by omega), cmp_gt (by omega)]
      · rw [cv_inf h1, negOf_word _ _ (by decide), rungAt_word _ _ (by decide), h1]
        rcases cases32 y with h | ⟨_, g1⟩ | ⟨_, g1⟩
        · rw [h] at hy; cases hy
        · obtain ⟨b1, b2, b3, _⟩ := cv_finite g1
          rw [b1]
          cases negOf single x <;> cases negOf single y <;> simp only [sgn, if_true, if_false, Bool.false_eq_true] <;> first | rw [cmp_lt (by omega), cmp_lt (by omega)] | rw [cmp_gt (by omega), cmp_gt (by omega)]
        · rw [cv_inf g1, negOf_word _ _ (by decide), rungAt_word _ _ (by decide), g1]
          have i1 : (0 : Int) < (double.infRung : Int) := by decide
          have i2 : (0 : Int) < (single.infRung : Int) := by decide
          cases negOf single x <;> cases negOf single y <;> simp only [sgn, if_true, if_false, Bool.false_eq_true] <;> first | rw [cmp_eq rfl, cmp_eq rfl] | rw [cmp_lt (by omega), cmp_lt (by omega)] | rw [cmp_gt (by omega), cmp_gt (by omega)]

/-- x - x is 0 for a finite x, and a not-a-number else. -/
theorem sub_self_finite (k : FloatKind) {x : Nat} (h : rungAt k.format x < k.format.infRung) : fop .sub k x x = 0 := by
  obtain ⟨m, j, e, _⟩ := read_finite k.format h
  have : floatBits .sub k x x = some 0 := by
    show k.format.sub x x = some 0
    unfold Format.sub
    rw [e]
    simp only [Datum.opposite, Datum.sum, Option.map_some]
    congr 1
    have z : ∀ b : Bool, ∀ n : Nat, signed b n (k.format.leastPlace + (j : Int) - min (k.format.leastPlace + (j : Int)) (k.format.leastPlace + (j : Int))).toNat + signed (!b) n (k.format.leastPlace + (j : Int) - min (k.format.leastPlace + (j : Int)) (k.format.leastPlace + (j : Int))).toNat = 0 := by
      intro b n; cases b <;> simp only [signed, Bool.not_false, Bool.not_true, if_true, if_false, Bool.false_eq_true] <;> omega
    rw [z]
    simp only [if_true, Int.natAbs_zero]
    show k.format.nearest _ 0 _ = 0
    unfold Format.nearest
    rw [if_pos rfl]
    cases negOf k.format x <;> rfl
  unfold fop; rw [this]; rfl
theorem sub_self_other (k : FloatKind) {x : Nat} (h : ¬ rungAt k.format x < k.format.infRung) : nanB k (fop .sub k x x) = true := by
  have : floatBits .sub k x x = none := by
    cases hn : nanB k x with
    | true => exact floatBits_nan_left hn
    | false =>
      have h1 := le_of_not_nan hn
      show k.format.sub x x = none
      unfold Format.sub
      rw [read_inf k.format (binade_le_infRung _ (by cases k <;> decide)) (by omega)]
      simp only [Datum.opposite, Datum.sum]
      cases negOf k.format x <;> rfl
  unfold fop; rw [this]; exact cnan_nan k

theorem fin_test (k : FloatKind) (x : Nat) : (k.format.order (fop .sub k x x) 0 == some .eq) = decide (rungAt k.format x < k.format.infRung) := by
  by_cases h : rungAt k.format x < k.format.infRung
  · rw [sub_self_finite k h, order_self, decide_eq_true h, nanB_of_rung (by unfold rungAt; rw [Nat.zero_mod]; exact Nat.zero_le _)]; rfl
  · rw [order_nan_left _ (sub_self_other k h), decide_eq_false h]; rfl

/-- A 32-bit number is finite. -/
def finB (x : Nat) : Bool := decide (rungAt single x < single.infRung)
theorem finB_eq {x r : Nat} (h : Same .f32 r (fop .sub .f32 x x)) : (FloatKind.f32.format.order r 0 == some .eq) = finB x := by
  rw [order_same h (Same.refl _ 0)]; exact fin_test .f32 x
theorem finB_cv (x : Nat) : decide (rungAt double (cv x) < double.infRung) = finB x := by
  unfold finB
  rcases cases32 x with h | ⟨_, h1⟩ | ⟨_, h1⟩
  · have g : double.infRung < rungAt double (cv x) := by
      have := nanB_cv x; rw [h, nanB_eq, decide_eq_true_eq] at this; exact this
    have g2 : single.infRung < rungAt single x := by
      have := h; rw [nanB_eq, decide_eq_true_eq] at this; exact this
    rw [decide_eq_false (by omega), decide_eq_false (by omega)]
  · rw [decide_eq_true h1, decide_eq_true (cv_finite h1).2.1]
  · rw [h1, cv_inf h1, rungAt_word _ _ (by decide)]; simp
end Go.Proofs.Ytcmmafkmfahijaa
