/- Small integers as floating-point numbers: sums, products and conversions are exact. Conditions: as each says. -/
import Derived.Test.YtcmmafkmfahijaaExact
import Derived.Test.YtcmmafkmfahijaaBound
namespace Go.Proofs.Ytcmmafkmfahijaa
open Ieee

/-- A format with enough places on both sides of the point. -/
def Fit (f : Format) (N : Nat) : Prop := f.leastPlace = -(N : Int) ∧ f.fractionBits ≤ N ∧ (N + 2) * f.binade ≤ f.infRung ∧ f.infRung < f.signWeight
theorem fit32 : Fit single 149 := ⟨rfl, by decide, by decide, by decide⟩
theorem fit64 : Fit double 1074 := ⟨rfl, by decide, by decide +kernel, by decide +kernel⟩
theorem pow_cancel {a b k : Nat} (h : a * 2 ^ k = b * 2 ^ k) : a = b := Nat.eq_of_mul_eq_mul_right (Nat.two_pow_pos k) h

theorem int_rung {f : Format} {N m a : Nat} {p : Int} (hf : Fit f N) (h0 : 0 < a) (ha : a < 2 * f.binade) (h : m * 2 ^ (p - f.leastPlace).toNat = a * 2 ^ N * 2 ^ (f.leastPlace - p).toNat) :
    ∃ sig e, rungOf f m p = e * f.binade + sig ∧ sig * 2 ^ e = a * 2 ^ N ∧ sig < 2 * f.binade ∧ f.binade ≤ sig ∧ e * f.binade + sig < f.infRung ∧ (∃ j, sig = a * 2 ^ j ∧ e + j = N) := by
  obtain ⟨h1, h2, h3, h4⟩ := hf
  have hB : f.binade = 2 ^ f.fractionBits := rfl
  have l1 : a.log2 < f.fractionBits + 1 := (Nat.log2_lt (by omega)).2 (by rw [Nat.pow_succ]; omega)
  have l2 : 2 ^ a.log2 ≤ a := Nat.log2_self_le (by omega)
  have l3 : a < 2 ^ (a.log2 + 1) := Nat.lt_log2_self
  obtain ⟨j, hj⟩ : ∃ j, a.log2 + j = f.fractionBits := ⟨f.fractionBits - a.log2, by omega⟩
  obtain ⟨e, he⟩ : ∃ e, e + j = N := ⟨N - j, by omega⟩
  have s1 : f.binade ≤ a * 2 ^ j := by
    have := Nat.mul_le_mul_right (2 ^ j) l2
    rw [← Nat.pow_add, hj] at this
    exact this
  have s2 : a * 2 ^ j < 2 * f.binade := by
    have := Nat.mul_lt_mul_of_pos_right l3 (Nat.two_pow_pos j)
    rw [← Nat.pow_add, show a.log2 + 1 + j = f.fractionBits + 1 by omega, Nat.pow_succ] at this
    omega
  have s3 : a * 2 ^ j * 2 ^ e = a * 2 ^ N := by rw [Nat.mul_assoc, ← Nat.pow_add, show j + e = N by omega]
  have s4 : e * f.binade + a * 2 ^ j < f.infRung := by
    have : e * f.binade ≤ N * f.binade := Nat.mul_le_mul_right _ (by omega)
    rw [Nat.add_mul] at h3
    omega
  refine ⟨a * 2 ^ j, e, ?_, s3, s2, s1, s4, j, rfl, he⟩
  refine rung_exact f (by have := binade_pos f; omega) s2 (.inr s1) (Nat.le_of_lt s4) ?_
  rw [← s3] at h
  generalize a * 2 ^ j = sig at *
  rw [h1] at h ⊢
  by_cases c1 : 0 ≤ p + N
  · obtain ⟨i, hi⟩ : ∃ i : Nat, p + N = i := ⟨(p + N).toNat, by omega⟩
    have e1 : (p - -(N : Int)).toNat = i := by omega
    have e2 : (-(N : Int) - p).toNat = 0 := by omega
    rw [e1, e2, Nat.pow_zero, Nat.mul_one] at h
    by_cases c : e ≤ i
    · have e3 : (p - (-(N : Int) + e)).toNat = i - e := by omega
      have e4 : ((-(N : Int) + e) - p).toNat = 0 := by omega
      rw [e3, e4, Nat.pow_zero, Nat.mul_one]
      refine pow_cancel (k := e) ?_
      rw [Nat.mul_assoc, ← Nat.pow_add, show i - e + e = i by omega, h]
    · have e3 : (p - (-(N : Int) + e)).toNat = 0 := by omega
      have e4 : ((-(N : Int) + e) - p).toNat = e - i := by omega
      rw [e3, e4, Nat.pow_zero, Nat.mul_one]
      refine pow_cancel (k := i) ?_
      rw [Nat.mul_assoc, ← Nat.pow_add, show e - i + i = e by omega, h]
  · obtain ⟨d, hd⟩ : ∃ d : Nat, -(N : Int) - p = d := ⟨(-(N : Int) - p).toNat, by omega⟩
    have e1 : (p - -(N : Int)).toNat = 0 := by omega
    have e2 : (-(N : Int) - p).toNat = d := by omega
    rw [e1, e2, Nat.pow_zero, Nat.mul_one] at h
    have e3 : (p - (-(N : Int) + e)).toNat = 0 := by omega
    have e4 : ((-(N : Int) + e) - p).toNat = e + d := by omega
    rw [e3, e4, Nat.pow_zero, Nat.mul_one, h, Nat.mul_assoc, ← Nat.pow_add]

/-- The word of an integer. -/
def K (f : Format) (k : Int) : Nat := f.nearest (decide (k < 0)) k.natAbs 0
theorem K_zero (f : Format) : K f 0 = 0 := by unfold K Format.nearest; rw [if_pos (show Int.natAbs 0 = 0 from rfl)]; rfl
theorem same_rung {f : Format} {N m a : Nat} {p : Int} (hf : Fit f N) (h0 : 0 < a) (ha : a < 2 * f.binade) (h : m * 2 ^ (p - f.leastPlace).toNat = a * 2 ^ N * 2 ^ (f.leastPlace - p).toNat) : rungOf f m p = rungOf f a 0 := by
  obtain ⟨s1, e1, r1, v1, b1, b1', _, j1, hs1, he1⟩ := int_rung hf h0 ha h
  have hN : (0 - f.leastPlace).toNat = N ∧ (f.leastPlace - 0).toNat = 0 := by have := hf.1; omega
  obtain ⟨s2, e2, r2, v2, b2, b2', _, j2, hs2, he2⟩ := int_rung (m := a) (p := 0) hf h0 ha (by rw [hN.1, hN.2]; simp)
  rw [r1, r2]
  have : rv f (e1 * f.binade + s1) = rv f (e2 * f.binade + s2) := by
    rw [rv_of f b1 (.inr b1'), rv_of f b2 (.inr b2'), v1, v2]
  exact (rv_inj f).1 this
/-- What the word of an integer stands for. -/
theorem K_facts {f : Format} {N : Nat} (hf : Fit f N) {k : Int} (hk : k.natAbs < 2 * f.binade) :
    negOf f (K f k) = decide (k < 0) ∧ rungAt f (K f k) < f.infRung ∧ rv f (rungAt f (K f k)) = k.natAbs * 2 ^ N ∧ K f k < 2 * f.signWeight := by
  by_cases h0 : k = 0
  · subst h0
    rw [K_zero]
    have := hf.2.2.1
    have hb := binade_pos f
    have hs : 0 < f.signWeight := Nat.two_pow_pos _
    refine ⟨by simp [negOf], ?_, by simp [rungAt, rv_zero], by omega⟩
    show 0 % f.signWeight < f.infRung
    rw [Nat.zero_mod]
    rw [Nat.add_mul] at this; omega
  · have hN : (0 - f.leastPlace).toNat = N ∧ (f.leastPlace - 0).toNat = 0 := by have := hf.1; omega
    obtain ⟨s2, e2, r2, v2, b2, b2', hi, _⟩ := int_rung (m := k.natAbs) (p := 0) hf (by omega) hk (by rw [hN.1, hN.2]; simp)
    have hl := hf.2.2.2
    have e : K f k = f.word (decide (k < 0)) (rungOf f k.natAbs 0) := by unfold K; rw [nearest_eq]
    rw [e, r2, negOf_word f _ (by omega), rungAt_word f _ (by omega), rv_of f b2 (.inr b2'), v2]
    refine ⟨rfl, hi, rfl, ?_⟩
    unfold Format.word; split <;> omega
theorem K_read {f : Format} {N : Nat} (hf : Fit f N) {k : Int} (hk : k.natAbs < 2 * f.binade) : ∃ m i : Nat, f.read (K f k) = .number (decide (k < 0)) m (f.leastPlace + i) ∧ m * 2 ^ i = k.natAbs * 2 ^ N := by
  obtain ⟨h1, h2, h3, _⟩ := K_facts hf hk
  obtain ⟨m, i, e, v, _⟩ := read_finite f h2
  exact ⟨m, i, by rw [e, h1], by rw [v, h3]⟩
theorem K_nearest {f : Format} {N m : Nat} {p : Int} {s : Bool} {k : Int} (hf : Fit f N) (hk : k.natAbs < 2 * f.binade) (h : m * 2 ^ (p - f.leastPlace).toNat = k.natAbs * 2 ^ N * 2 ^ (f.leastPlace - p).toNat) (hs : s = decide (k < 0)) : f.nearest s m p = K f k := by
  subst hs
  by_cases h0 : k = 0
  · subst h0
    simp only [Int.natAbs_zero, Nat.zero_mul] at h
    have : m = 0 := by
      rcases Nat.mul_eq_zero.1 h with h | h
      · exact h
      · have := Nat.two_pow_pos (p - f.leastPlace).toNat; omega
    subst this
    rw [K_zero]
    unfold Format.nearest
    rw [if_pos rfl]; rfl
  · unfold K
    rw [nearest_eq, nearest_eq, same_rung hf (by omega) hk h]
theorem sgn_nat (a : Int) (n : Nat) : sgn (decide (a < 0)) (a.natAbs * n) = a * (n : Int) := by
  rw [sgn_mul]
  congr 1
  unfold sgn
  by_cases h : a < 0
  · rw [decide_eq_true h, if_pos rfl]; omega
  · rw [decide_eq_false h, if_neg (by simp)]; omega
theorem sgn_scale (s : Bool) (m i c : Nat) (h : c ≤ i) : sgn s (m * 2 ^ (i - c)) * ((2 ^ c : Nat) : Int) = sgn s (m * 2 ^ i) := by
  rw [← sgn_mul, Nat.mul_assoc, ← Nat.pow_add, Nat.sub_add_cancel h]
theorem add_K {f : Format} {N : Nat} (hf : Fit f N) {a b : Int} (ha : a.natAbs < 2 * f.binade) (hb : b.natAbs < 2 * f.binade) (hab : (a + b).natAbs < 2 * f.binade) : f.add (K f a) (K f b) = some (K f (a + b)) := by
  obtain ⟨m, i, e1, v1⟩ := K_read hf ha
  obtain ⟨n, j, e2, v2⟩ := K_read hf hb
  have hbase : min (f.leastPlace + (i : Int)) (f.leastPlace + (j : Int)) = f.leastPlace + ((min i j : Nat) : Int) := by omega
  have u1 : (f.leastPlace + (i : Int) - (f.leastPlace + ((min i j : Nat) : Int))).toNat = i - min i j := by omega
  have u2 : (f.leastPlace + (j : Int) - (f.leastPlace + ((min i j : Nat) : Int))).toNat = j - min i j := by omega
  have ht : (sgn (decide (a < 0)) (m * 2 ^ (i - min i j)) + sgn (decide (b < 0)) (n * 2 ^ (j - min i j))) * ((2 ^ min i j : Nat) : Int) = (a + b) * ((2 ^ N : Nat) : Int) := by
    rw [Int.add_mul, sgn_scale _ _ _ _ (Nat.min_le_left i j), sgn_scale _ _ _ _ (Nat.min_le_right i j), v1, v2, sgn_nat, sgn_nat, Int.add_mul]
  unfold Format.add
  rw [e1, e2]
  simp only [Datum.sum, hbase, u1, u2, signed_eq, Option.map_some]
  generalize sgn (decide (a < 0)) (m * 2 ^ (i - min i j)) + sgn (decide (b < 0)) (n * 2 ^ (j - min i j)) = T at *
  congr 1
  have p1 : (0 : Int) < ((2 ^ min i j : Nat) : Int) := by exact_mod_cast Nat.two_pow_pos _
  have p2 : (0 : Int) < ((2 ^ N : Nat) : Int) := by exact_mod_cast Nat.two_pow_pos _
  refine K_nearest hf hab ?_ ?_
  · have h1 : (f.leastPlace + ((min i j : Nat) : Int) - f.leastPlace).toNat = min i j := by omega
    have h2 : (f.leastPlace - (f.leastPlace + ((min i j : Nat) : Int))).toNat = 0 := by omega
    rw [h1, h2, Nat.pow_zero, Nat.mul_one]
    have := congrArg Int.natAbs ht
    rw [Int.natAbs_mul, Int.natAbs_mul, Int.natAbs_natCast, Int.natAbs_natCast] at this
    exact this
  · by_cases hT : T = 0
    · rw [if_pos hT]
      subst hT
      rw [Int.zero_mul] at ht
      have h0 : a + b = 0 := by
        rcases Int.mul_eq_zero.1 ht.symm with h | h
        · exact h
        · omega
      rw [decide_eq_false (show ¬ a + b < 0 by omega)]
      by_cases h : a < 0
      · rw [decide_eq_false (show ¬ b < 0 by omega), Bool.and_false]
      · rw [decide_eq_false h, Bool.false_and]
    · rw [if_neg hT]
      rw [decide_eq_decide]
      constructor
      · intro h
        have : T * ((2 ^ min i j : Nat) : Int) < 0 := Int.mul_neg_of_neg_of_pos h p1
        rw [ht] at this
        rcases Int.lt_or_le (a + b) 0 with h2 | h2
        · exact h2
        · have := Int.mul_nonneg h2 (Int.le_of_lt p2); omega
      · intro h
        have : (a + b) * ((2 ^ N : Nat) : Int) < 0 := Int.mul_neg_of_neg_of_pos h p2
        rw [← ht] at this
        rcases Int.lt_or_le T 0 with h2 | h2
        · exact h2
        · have := Int.mul_nonneg h2 (Int.le_of_lt p1); omega
theorem mul_K {f : Format} {N : Nat} (hf : Fit f N) {a : Int} (ha : a.natAbs < 2 * f.binade) (hab : (a * a).natAbs < 2 * f.binade) : f.mul (K f a) (K f a) = some (K f (a * a)) := by
  obtain ⟨m, i, e1, v1⟩ := K_read hf ha
  unfold Format.mul
  rw [e1]
  simp only [Datum.product, Option.map_some]
  congr 1
  refine K_nearest hf hab ?_ ?_
  · have hN := hf.1
    rw [Int.natAbs_mul]
    have key : m * m * 2 ^ (i + i) = a.natAbs * a.natAbs * 2 ^ N * 2 ^ N := by
      have : m * m * 2 ^ (i + i) = (m * 2 ^ i) * (m * 2 ^ i) := by rw [Nat.pow_add]; ac_rfl
      rw [this, v1]; ac_rfl
    by_cases c : N ≤ i + i
    · have h1 : (f.leastPlace + (i : Int) + (f.leastPlace + (i : Int)) - f.leastPlace).toNat = i + i - N := by omega
      have h2 : (f.leastPlace - (f.leastPlace + (i : Int) + (f.leastPlace + (i : Int)))).toNat = 0 := by omega
      rw [h1, h2, Nat.pow_zero, Nat.mul_one]
      refine pow_cancel (k := N) ?_
      rw [Nat.mul_assoc, ← Nat.pow_add, show i + i - N + N = i + i by omega, key]
    · have h1 : (f.leastPlace + (i : Int) + (f.leastPlace + (i : Int)) - f.leastPlace).toNat = 0 := by omega
      have h2 : (f.leastPlace - (f.leastPlace + (i : Int) + (f.leastPlace + (i : Int)))).toNat = N - (i + i) := by omega
      rw [h1, h2, Nat.pow_zero, Nat.mul_one]
      refine pow_cancel (k := i + i) ?_
      rw [key, Nat.mul_assoc _ (2 ^ (N - (i + i))), ← Nat.pow_add, show N - (i + i) + (i + i) = N by omega]
  · have : ¬ a * a < 0 := by have := Int.natAbs_mul_self (a := a); omega
    rw [decide_eq_false this]
    cases decide (a < 0) <;> rfl
theorem word_eq {f : Format} {x y : Nat} (hx : x < 2 * f.signWeight) (hy : y < 2 * f.signWeight) (h1 : negOf f x = negOf f y) (h2 : rv f (rungAt f x) = rv f (rungAt f y)) : x = y := by
  rw [← word_of f hx, ← word_of f hy, h1, (rv_inj f).1 h2]
theorem cv_K {k : Int} (hk : k.natAbs < 16777216) : cv (K single k) = K double k := by
  obtain ⟨M, hM⟩ : ∃ M, M = 1074 := ⟨_, rfl⟩
  have hf : Fit double M := by rw [hM]; exact fit64
  have hsc : 149 + sc = M := by rw [sc_eq]; omega
  obtain ⟨a1, a2, a3, a4⟩ := K_facts fit32 (k := k) (by rw [single_binade]; omega)
  obtain ⟨b1, b2, b3, b4⟩ := K_facts hf (k := k) (by rw [double_binade]; omega)
  obtain ⟨c1, c2, c3, c4⟩ := cv_finite a2
  refine word_eq (f := double) (by rw [double_sign]; omega) b4 (by rw [c1, a1, b1]) ?_
  rw [c3, a3, b3, Nat.mul_assoc, ← Nat.pow_add, hsc]
theorem nar_K {k : Int} (hk : k.natAbs < 16777216) : floatToFloatBits .f64 (K double k) .f32 = some (K single k) := by
  obtain ⟨a1, a2, a3, a4⟩ := K_facts fit32 (k := k) (by rw [single_binade]; omega)
  rw [← cv_K hk]
  exact narrow_wide (by rw [single_sign] at a4; omega) (by rw [single_inf] at a2; exact a2)
theorem K_num {k : Int} (hk : k.natAbs < 16777216) : nanB .f32 (K single k) = false := by
  obtain ⟨a1, a2, a3, a4⟩ := K_facts fit32 (k := k) (by rw [single_binade]; omega)
  exact nanB_of_rung (k := .f32) (Nat.le_of_lt a2)
theorem K_lt {k : Int} (hk : k.natAbs < 16777216) : K single k < 4294967296 := by
  obtain ⟨a1, a2, a3, a4⟩ := K_facts fit32 (k := k) (by rw [single_binade]; omega)
  rw [single_sign] at a4; omega
/-- A product with 1 is the number. -/
theorem mul_one32 {x : Nat} (hx : x < 4294967296) (h : rungAt single x < single.infRung) : single.mul x 1065353216 = some x := by
  obtain ⟨m, i, e, v, h1, h2, h3⟩ := read_finite single h
  have e1 : single.read 1065353216 = .number false 8388608 (-23) := by decide +kernel
  unfold Format.mul
  rw [e, e1]
  simp only [Datum.product, Option.map_some, Bool.xor_false]
  congr 1
  show single.nearest _ _ _ = x
  rw [nearest_eq]
  have hr : rungOf single (m * 8388608) (single.leastPlace + (i : Int) + -23) = rungAt single x := by
    by_cases m0 : m = 0
    · subst m0
      rw [Nat.zero_mul]
      rw [Nat.zero_mul, ← rv_zero single] at v
      have := (rv_inj single).1 v
      rw [← this]; rfl
    · rw [← h3 m0]
      refine rung_exact single (by omega) h1 h2 (by rw [h3 m0]; exact Nat.le_of_lt h) ?_
      rw [single_least]
      have a1 : ((-149 : Int) + (i : Int) + -23 - (-149 + (i : Int))).toNat = 0 := by omega
      have a2 : ((-149 : Int) + (i : Int) - (-149 + (i : Int) + -23)).toNat = 23 := by omega
      rw [a1, a2, Nat.pow_zero, Nat.mul_one]
  rw [hr]
  exact word_of single (by rw [single_sign]; omega)
theorem mul_one_same {x : Nat} (hx : x < 4294967296) : Same .f32 (fop .mul .f32 x 1065353216) x := by
  rcases cases32 x with h | ⟨_, h⟩ | ⟨h0, h⟩
  · refine .inr ⟨?_, h⟩
    unfold fop
    rw [floatBits_nan_left h]
    exact cnan_nan _
  · exact .inl (fop_some (mul_one32 hx h))
  · refine .inl (fop_some ?_)
    have hr := read_inf single (by decide) h
    have e1 : single.read 1065353216 = .number false 8388608 (-23) := by decide +kernel
    show single.mul x 1065353216 = _
    unfold Format.mul
    rw [hr, e1]
    simp only [Datum.product]
    rw [if_neg (by decide)]
    simp only [Option.map_some, Bool.xor_false]
    congr 1
    show single.word _ single.infRung = x
    rw [← h]
    exact word_of single (by rw [single_sign]; omega)
theorem ofInt32 (k : Int) : floatOfInt .f32 k = K single k := rfl
theorem ofInt64 (k : Int) : floatOfInt .f64 k = K double k := rfl
end Go.Proofs.Ytcmmafkmfahijaa
