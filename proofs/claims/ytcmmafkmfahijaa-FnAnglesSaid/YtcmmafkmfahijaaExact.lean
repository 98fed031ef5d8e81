/- 64-bit numbers by their values in units of the least place: sums and halves that are exact; narrowing what lies between two 32-bit neighbours, in quarters. Conditions: as each says. -/
import Derived.Test.YtcmmafkmfahijaaNumb
namespace Go.Proofs.Ytcmmafkmfahijaa
open Ieee

/-- The value of a finite 64-bit number, in units of the least place. -/
def DV (u : Nat) : Int := sgn (negOf double u) (rv double (rungAt double u))
def Fin64 (u : Nat) : Prop := rungAt double u < double.infRung
theorem two_pow_add (a b : Nat) : 2 ^ (a + b) = 2 ^ a * 2 ^ b := Nat.pow_add 2 a b
theorem normal {sig e : Nat} (h0 : sig ≠ 0) (hs : sig < 2 ^ 53) : ∃ s' e', sig * 2 ^ e = s' * 2 ^ e' ∧ 0 < s' ∧ s' < 2 ^ 53 ∧ (e' = 0 ∨ 2 ^ 52 ≤ s') := by
  have l1 : sig.log2 < 53 := (Nat.log2_lt h0).2 hs
  have l2 : 2 ^ sig.log2 ≤ sig := Nat.log2_self_le h0
  have l3 : sig < 2 ^ (sig.log2 + 1) := Nat.lt_log2_self
  by_cases h : e ≤ 52 - sig.log2
  · refine ⟨sig * 2 ^ e, 0, by simp, Nat.mul_pos (by omega) (Nat.two_pow_pos _), ?_, .inl rfl⟩
    have := Nat.mul_lt_mul_of_pos_right l3 (Nat.two_pow_pos e)
    rw [← Nat.pow_add] at this
    exact Nat.lt_of_lt_of_le this (Nat.pow_le_pow_right (by omega) (by omega))
  · refine ⟨sig * 2 ^ (52 - sig.log2), e - (52 - sig.log2), ?_, Nat.mul_pos (by omega) (Nat.two_pow_pos _), ?_, .inr ?_⟩
    · rw [Nat.mul_assoc, ← Nat.pow_add]; congr 2; omega
    · have := Nat.mul_lt_mul_of_pos_right l3 (Nat.two_pow_pos (52 - sig.log2))
      rw [← Nat.pow_add] at this
      exact Nat.lt_of_lt_of_le this (Nat.pow_le_pow_right (by omega) (by omega))
    · have := Nat.mul_le_mul_right (2 ^ (52 - sig.log2)) l2
      rw [← Nat.pow_add, show sig.log2 + (52 - sig.log2) = 52 by omega] at this
      exact this
/-- A value that the format has is written exactly. -/
theorem rung_val {m a z sig e : Nat} {p : Int} (hp : p + 1074 + z = a) (hv : m * 2 ^ a = sig * 2 ^ e * 2 ^ z) (hs : sig < 2 ^ 53) (hb : sig * 2 ^ e < 2 ^ 2098) :
    rungOf double m p < double.infRung ∧ rv double (rungOf double m p) = sig * 2 ^ e := by
  by_cases h0 : sig = 0
  · subst h0
    rw [Nat.zero_mul, Nat.zero_mul] at hv
    have hm : m = 0 := by
      rcases Nat.mul_eq_zero.1 hv with h | h
      · exact h
      · have := Nat.two_pow_pos a; omega
    subst hm
    refine ⟨by unfold rungOf; rw [if_pos rfl]; decide, ?_⟩
    unfold rungOf; rw [if_pos rfl, rv_zero]; simp
  · obtain ⟨s', e', hse, s0, s1, s2⟩ := normal (e := e) h0 hs
    rw [hse] at hv hb ⊢
    have he : e' ≤ 2045 := by
      rcases s2 with h | h
      · omega
      · have h1 := Nat.lt_of_le_of_lt (Nat.mul_le_mul_right (2 ^ e') h) hb
        rw [← Nat.pow_add] at h1
        have := (Nat.pow_lt_pow_iff_right (by omega)).1 h1
        omega
    have hb53 : (2 : Nat) ^ 53 = 2 * double.binade := by decide
    have hb52 : (2 : Nat) ^ 52 = double.binade := by decide
    have hx := rung_exact double (m := m) (sig := s') (e := e') (p := p) s0 (by omega) (by omega) (by rw [double_binade, double_inf]; rw [show (2:Nat) ^ 53 = 9007199254740992 by decide] at s1; omega) (by
      rw [double_least]
      by_cases hc : z + e' ≤ a
      · rw [show (p - (-1074 + (e' : Int))).toNat = a - (z + e') by omega, show ((-1074 : Int) + (e' : Int) - p).toNat = 0 by omega, Nat.pow_zero, Nat.mul_one]
        have e1 : 2 ^ a = 2 ^ (a - (z + e')) * (2 ^ e' * 2 ^ z) := by rw [← Nat.pow_add, ← Nat.pow_add]; congr 1; omega
        rw [e1, ← Nat.mul_assoc, Nat.mul_assoc s'] at hv
        exact Nat.eq_of_mul_eq_mul_right (Nat.mul_pos (Nat.two_pow_pos _) (Nat.two_pow_pos _)) hv
      · rw [show (p - (-1074 + (e' : Int))).toNat = 0 by omega, show ((-1074 : Int) + (e' : Int) - p).toNat = z + e' - a by omega, Nat.pow_zero, Nat.mul_one]
        have e1 : 2 ^ e' * 2 ^ z = 2 ^ (z + e' - a) * 2 ^ a := by rw [← Nat.pow_add, ← Nat.pow_add]; congr 1; omega
        rw [Nat.mul_assoc s', e1, ← Nat.mul_assoc] at hv
        exact Nat.eq_of_mul_eq_mul_right (Nat.two_pow_pos _) hv)
    rw [hx]
    refine ⟨?_, rv_of double (by omega) (by omega)⟩
    rw [double_binade, double_inf]
    rw [show (2:Nat) ^ 53 = 9007199254740992 by decide] at s1
    omega
theorem dv_word {s : Bool} {R : Nat} (h : R < double.infRung) : DV (double.word s R) = sgn s (rv double R) ∧ Fin64 (double.word s R) ∧ double.word s R < 18446744073709551616 := by
  have hl : R < double.signWeight := Nat.lt_trans h (by decide)
  refine ⟨?_, ?_, Format.word_lt double s hl⟩
  · unfold DV; rw [negOf_word _ _ hl, rungAt_word _ _ hl]
  · unfold Fin64; rw [rungAt_word _ _ hl]; exact h
theorem sgn_abs (s : Bool) (n : Nat) : (sgn s n).natAbs = n := by cases s <;> simp [sgn]
theorem sgn_natAbs {T : Int} {b : Bool} (h : T ≠ 0 → (b = true ↔ T < 0)) : sgn b T.natAbs = T := by
  cases b
  · simp only [sgn, Bool.false_eq_true, if_false]
    by_cases h0 : T = 0
    · omega
    · have h1 := h h0; simp at h1; omega
  · simp only [sgn, if_true]
    by_cases h0 : T = 0
    · omega
    · have := (h h0).1 rfl; omega
theorem read64 {u : Nat} (h : Fin64 u) : ∃ m i : Nat, double.read u = .number (negOf double u) m (-1074 + i) ∧ sgn (negOf double u) (m * 2 ^ i) = DV u ∧ m < 9007199254740992 ∧ (i = 0 ∨ 4503599627370496 ≤ m) := by
  obtain ⟨m, i, e, v, l, n, _⟩ := read_finite double h
  exact ⟨m, i, e, by unfold DV; rw [v], l, n⟩
theorem pow_int (n : Nat) : ((2 ^ n : Nat) : Int) = (2 : Int) ^ n := by simp
theorem add_exact {u v sig e : Nat} (hu : Fin64 u) (hv : Fin64 v) (hT : (DV u + DV v).natAbs = sig * 2 ^ e) (hs : sig < 2 ^ 53) (hb : sig * 2 ^ e < 2 ^ 2098) :
    ∃ r, floatBits .add .f64 u v = some r ∧ Fin64 r ∧ DV r = DV u + DV v ∧ r < 18446744073709551616 := by
  obtain ⟨m, i, e1, d1, _, _⟩ := read64 hu
  obtain ⟨n, j, e2, d2, _, _⟩ := read64 hv
  generalize negOf double u = s at *
  generalize negOf double v = t at *
  generalize hTT : DV u + DV v = T at *
  have htot : (signed s m (i - min i j) + signed t n (j - min i j)) * ((2 ^ min i j : Nat) : Int) = T := by
    rw [← hTT, ← d1, ← d2, signed_eq, signed_eq, Int.add_mul, ← sgn_mul, ← sgn_mul, Nat.mul_assoc, Nat.mul_assoc, ← Nat.pow_add, ← Nat.pow_add, show i - min i j + min i j = i by omega, show j - min i j + min i j = j by omega]
  have hpos : (0 : Int) < ((2 ^ min i j : Nat) : Int) := by have := Nat.two_pow_pos (min i j); omega
  generalize hA : signed s m (i - min i j) + signed t n (j - min i j) = A at *
  have habs : A.natAbs * 2 ^ min i j = sig * 2 ^ e * 2 ^ 0 := by
    rw [Nat.pow_zero, Nat.mul_one, ← hT, ← htot, Int.natAbs_mul, Int.natAbs_natCast]
  have hr := rung_val (m := A.natAbs) (a := min i j) (z := 0) (p := -1074 + (min i j : Nat)) (by omega) habs hs hb
  have hw : floatBits .add .f64 u v = some (double.word (if A = 0 then (s && t) else decide (A < 0)) (rungOf double A.natAbs (-1074 + (min i j : Nat)))) := by
    show double.add u v = _
    unfold Format.add
    rw [e1, e2]
    simp only [Datum.sum, Option.map_some]
    have q1 : (-1074 + (i : Int) - min (-1074 + (i : Int)) (-1074 + (j : Int))).toNat = i - min i j := by omega
    have q2 : (-1074 + (j : Int) - min (-1074 + (i : Int)) (-1074 + (j : Int))).toNat = j - min i j := by omega
    have q3 : min (-1074 + (i : Int)) (-1074 + (j : Int)) = -1074 + ((min i j : Nat) : Int) := by omega
    rw [q1, q2, q3, hA]
    show some (double.nearest _ _ _) = _
    rw [nearest_eq]
  obtain ⟨w1, w2, w3⟩ := dv_word (s := if A = 0 then (s && t) else decide (A < 0)) hr.1
  refine ⟨_, hw, w2, ?_, w3⟩
  rw [w1, hr.2, ← hT]
  refine sgn_natAbs fun h0 => ?_
  have ha : A ≠ 0 := fun h => h0 (by rw [← htot, h, Int.zero_mul])
  rw [if_neg ha, decide_eq_true_eq, ← htot]
  exact ⟨fun h => Int.mul_neg_of_neg_of_pos h hpos, fun h => by
    rcases Int.lt_trichotomy A 0 with l | l | l
    · exact l
    · exact absurd l ha
    · have := Int.mul_pos l hpos; omega⟩
theorem half_exact {u sig e : Nat} {H : Int} (hu : Fin64 u) (hd : DV u = 2 * H) (hT : H.natAbs = sig * 2 ^ e) (hs : sig < 2 ^ 53) (hb : sig * 2 ^ e < 2 ^ 2098) :
    ∃ r, floatBits .quo .f64 u 4611686018427387904 = some r ∧ Fin64 r ∧ DV r = H ∧ r < 18446744073709551616 := by
  obtain ⟨m, i, e1, d1, ml, _⟩ := read64 hu
  generalize negOf double u = s at *
  have e2 : double.read 4611686018427387904 = .number false 4503599627370496 (-51) := by decide +kernel
  have lm : m.log2 ≤ 52 := by
    by_cases h : m = 0
    · subst h; decide
    · exact Nat.lt_succ_iff.1 ((Nat.log2_lt h).2 ml)
  obtain ⟨g, hg⟩ : ∃ g, 106 - m.log2 = 52 + g := ⟨54 - m.log2, by omega⟩
  have dv : m <<< (106 - m.log2) / 4503599627370496 = m * 2 ^ g := by
    rw [hg, Nat.shiftLeft_eq, Nat.pow_add, Nat.mul_comm (2 ^ 52), ← Nat.mul_assoc]
    exact Nat.mul_div_cancel _ (by decide)
  have dm : (m <<< (106 - m.log2) % 4503599627370496 != 0) = false := by
    rw [hg, Nat.shiftLeft_eq, Nat.pow_add, Nat.mul_comm (2 ^ 52), ← Nat.mul_assoc]
    have : m * 2 ^ g * 2 ^ 52 % 4503599627370496 = 0 := Nat.mul_mod_left _ _
    rw [this]; rfl
  have hw : floatBits .quo .f64 u 4611686018427387904 = some (double.word (s ^^ false) (rungOf double (2 * (m * 2 ^ g)) (-1074 + (i : Int) - -51 - ((106 - m.log2 : Nat) : Int) - 1))) := by
    show double.div u 4611686018427387904 = _
    unfold Format.div
    rw [e1, e2]
    have l52 : (4503599627370496 : Nat).log2 = 52 := by decide +kernel
    simp only [Datum.quotient, if_neg (show ¬ (4503599627370496 : Nat) = 0 by decide), Option.map_some, l52]
    rw [show double.fractionBits + 2 + 52 - m.log2 = 106 - m.log2 from rfl, dv, dm]
    show some (double.nearest _ _ _) = _
    rw [nearest_eq]; rfl
  have ha : m * 2 ^ i = 2 * (sig * 2 ^ e) := by
    rw [← sgn_abs s (m * 2 ^ i), d1, hd, Int.natAbs_mul, hT]; rfl
  have hr := rung_val (m := 2 * (m * 2 ^ g)) (a := i) (z := g + 2) (p := -1074 + (i : Int) - -51 - ((106 - m.log2 : Nat) : Int) - 1) (sig := sig) (e := e) (by omega) (by
    rw [show 2 * (m * 2 ^ g) * 2 ^ i = m * 2 ^ i * (2 ^ g * 2) by ac_rfl, ha, Nat.pow_add]
    show 2 * (sig * 2 ^ e) * (2 ^ g * 2) = sig * 2 ^ e * (2 ^ g * 4)
    generalize sig * 2 ^ e = q
    generalize 2 ^ g = y
    rw [show 2 * q * (y * 2) = q * (y * (2 * 2)) by ac_rfl]) hs hb
  obtain ⟨w1, w2, w3⟩ := dv_word (s := s ^^ false) hr.1
  refine ⟨_, hw, w2, ?_, w3⟩
  rw [w1, hr.2, ← hT]
  have hH : DV u = 2 * H := hd
  refine sgn_natAbs fun h0 => ?_
  rw [← d1] at hH
  cases s
  · simp only [sgn, Bool.false_eq_true, if_false] at hH
    simp; omega
  · simp only [sgn, if_true] at hH
    simp; omega
/-- Cutting off two binary digits and some zeros. -/
theorem cut_quarter {sig j d : Nat} (hj : j < 4) (h0 : sig ≠ 0 ∨ j ≠ 0) : Toward.even.cut false ((4 * sig + j) * 2 ^ d) (d + 2) = sig + (if j = 3 ∨ (j = 2 ∧ sig % 2 = 1) then 1 else 0) := by
  have hm : 4 * sig + j ≠ 0 := by omega
  have hl : d + 2 ≤ ((4 * sig + j) * 2 ^ d).log2 + 2 := by rw [log2_mul_pow hm]; omega
  rw [cut_eq, Nat.min_eq_left hl]
  have hg : 2 ^ (d + 2) = 4 * 2 ^ d := by rw [Nat.pow_add, Nat.mul_comm]
  have e : (4 * sig + j) * 2 ^ d = sig * 2 ^ (d + 2) + j * 2 ^ d := by rw [hg, Nat.add_mul, Nat.mul_comm 4 sig, Nat.mul_assoc]
  have hp := Nat.two_pow_pos d
  have hlt : j * 2 ^ d < 2 ^ (d + 2) := by rw [hg]; exact Nat.mul_lt_mul_of_pos_right hj hp
  have hdiv : (4 * sig + j) * 2 ^ d / 2 ^ (d + 2) = sig := by
    rw [e, Nat.add_comm, Nat.add_mul_div_right _ _ (Nat.two_pow_pos _), Nat.div_eq_of_lt hlt, Nat.zero_add]
  have hmod : (4 * sig + j) * 2 ^ d % 2 ^ (d + 2) = j * 2 ^ d := by
    rw [e, Nat.add_comm, Nat.add_mul_mod_self_right, Nat.mod_eq_of_lt hlt]
  rw [hdiv, hmod, hg]
  congr 1
  generalize 2 ^ d = y at *
  obtain rfl | rfl | rfl | rfl : j = 0 ∨ j = 1 ∨ j = 2 ∨ j = 3 := by omega
  · rw [decide_eq_false (by omega), show (4 * y == 2 * (0 * y)) = false by rw [beq_eq_false_iff_ne]; omega]; rfl
  · rw [decide_eq_false (by omega), show (4 * y == 2 * (1 * y)) = false by rw [beq_eq_false_iff_ne]; omega]; rfl
  · rw [decide_eq_false (by omega), show (4 * y == 2 * (2 * y)) = true by rw [beq_iff_eq]; omega]
    by_cases h : sig % 2 = 1
    · rw [h]; rfl
    · rw [if_neg (by omega)]
      rw [show (sig % 2 == 1) = false by rw [beq_eq_false_iff_ne]; exact h]; rfl
  · rw [decide_eq_true (by omega)]; rfl
def upQ (sig j : Nat) : Nat := if j = 3 ∨ (j = 2 ∧ sig % 2 = 1) then 1 else 0
/-- The rung of a number between two neighbours, in quarters. -/
theorem rung_quarter {m k sig j q E : Nat} (hE : E = q + 923) (hv : m * 2 ^ k = (4 * sig + j) * 2 ^ E) (hk : k = 0 ∨ 4503599627370496 ≤ m) (hj : j < 4) (hs : sig < 16777216) (hq : q = 0 ∨ 8388608 ≤ sig) (hi : q * 8388608 + sig + 1 ≤ 2139095040) :
    rungOf single m (-1074 + k) = q * 8388608 + sig + upQ sig j := by
  by_cases h0 : sig = 0 ∧ j = 0
  · obtain ⟨rfl, rfl⟩ := h0
    have hm : m = 0 := by
      rw [Nat.mul_zero, Nat.add_zero, Nat.zero_mul] at hv
      rcases Nat.mul_eq_zero.1 hv with h | h
      · exact h
      · have := Nat.two_pow_pos k; omega
    have : q = 0 := by omega
    subst hm this
    unfold rungOf; rw [if_pos rfl]; rfl
  · have hc : 4 * sig + j ≠ 0 := by omega
    have hkq : k ≤ E := by
      rcases hk with h | h
      · omega
      · have h1 := Nat.mul_le_mul_right (2 ^ k) h
        rw [hv] at h1
        have h2 : 4 * sig + j < 2 ^ 26 := by rw [show (2:Nat) ^ 26 = 67108864 by decide]; omega
        have h3 := Nat.lt_of_le_of_lt h1 (Nat.mul_lt_mul_of_pos_right h2 (Nat.two_pow_pos E))
        rw [show (4503599627370496 : Nat) = 2 ^ 52 by decide, ← Nat.pow_add, ← Nat.pow_add] at h3
        have := (Nat.pow_lt_pow_iff_right (by omega)).1 h3
        omega
    obtain ⟨d, hd⟩ : ∃ d, E = d + k := ⟨E - k, by omega⟩
    have hm : m = (4 * sig + j) * 2 ^ d := by
      rw [hd, Nat.pow_add, ← Nat.mul_assoc] at hv
      exact Nat.eq_of_mul_eq_mul_right (Nat.two_pow_pos _) hv
    clear hv
    have hm0 : m ≠ 0 := by rw [hm]; exact Nat.mul_ne_zero hc (by have := Nat.two_pow_pos d; omega)
    have hl : m.log2 = (4 * sig + j).log2 + d := by rw [hm, log2_mul_pow hc]
    have hlast : lastOf single m (-1074 + (k : Int)) = -149 + (q : Int) := by
      unfold lastOf
      rw [single_least, hl]
      have f : single.fractionBits = 23 := rfl
      rw [f]
      rcases hq with h | h
      · subst h
        have : (4 * sig + j).log2 < 26 := (Nat.log2_lt hc).2 (by rw [show (2:Nat) ^ 26 = 67108864 by decide]; omega)
        omega
      · have l1 : (4 * sig + j).log2 < 26 := (Nat.log2_lt hc).2 (by rw [show (2:Nat) ^ 26 = 67108864 by decide]; omega)
        have l2 : 25 ≤ (4 * sig + j).log2 := (Nat.le_log2 hc).2 (by rw [show (2:Nat) ^ 25 = 33554432 by decide]; omega)
        omega
    have hkept : keptOf single m (-1074 + (k : Int)) = sig + upQ sig j := by
      unfold keptOf
      rw [hlast, show (-1074 + (k : Int) - (-149 + (q : Int))).toNat = 0 by omega, show (-149 + (q : Int) - (-1074 + (k : Int))).toNat = d + 2 by omega, Nat.shiftLeft_zero, hm]
      exact cut_quarter hj (by omega)
    unfold rungOf
    rw [if_neg hm0, hlast, hkept, single_least, show (-149 + (q : Int) - -149).toNat = q by omega, single_binade, single_inf]
    have h1 : upQ sig j ≤ 1 := by unfold upQ; split <;> omega
    clear hm hl hlast hkept hm0 hd hkq hE hc h0 hk hq hj
    generalize upQ sig j = v at *
    have h2 : q * 8388608 + (sig + v) ≤ 2139095040 := Nat.le_trans (Nat.add_le_add_left (Nat.add_le_add_left h1 sig) _) (by rw [← Nat.add_assoc]; exact hi)
    rw [Nat.min_eq_left h2, Nat.add_assoc]
theorem narrow_quarter {u sig j q E : Nat} {s : Bool} (hE : E = q + 923) (hu : Fin64 u) (hd : DV u = sgn s ((4 * sig + j) * 2 ^ E)) (hj : j < 4) (hs : sig < 16777216) (hq : q = 0 ∨ 8388608 ≤ sig) (hi : q * 8388608 + sig + 1 < 2139095040) :
    floatToFloatBits .f64 u .f32 = some (single.word (negOf double u) (q * 8388608 + sig + upQ sig j)) ∧ (4 * sig + j ≠ 0 → negOf double u = s) := by
  obtain ⟨m, k, e, d, _, n⟩ := read64 hu
  rw [hd] at d
  have hv : m * 2 ^ k = (4 * sig + j) * 2 ^ E := by
    have := congrArg Int.natAbs d
    rwa [sgn_abs, sgn_abs] at this
  have hr := rung_quarter hE hv n hj hs hq (by omega)
  have hup : upQ sig j ≤ 1 := by unfold upQ; split <;> omega
  refine ⟨?_, fun h0 => ?_⟩
  · unfold floatToFloatBits
    rw [if_neg (by decide)]
    show (match double.read u with | .nan _ _ => none | .infinity s => some (single.write (.infinity s)) | .number s m e => if (single.read (single.write (.number s m e))).isInfinity then none else some (single.write (.number s m e))) = _
    rw [e]
    have hw : single.write (.number (negOf double u) m (-1074 + (k : Int))) = single.word (negOf double u) (q * 8388608 + sig + upQ sig j) := by
      show single.nearest _ _ _ = _
      rw [nearest_eq, hr]
    have hlt : q * 8388608 + sig + upQ sig j < single.infRung := by rw [single_inf]; omega
    have hinf : (single.read (single.word (negOf double u) (q * 8388608 + sig + upQ sig j))).isInfinity = false := by
      obtain ⟨m', k', e', _⟩ := read_finite single (x := single.word (negOf double u) (q * 8388608 + sig + upQ sig j)) (by rw [rungAt_word _ _ (Nat.lt_trans hlt (by decide))]; exact hlt)
      rw [e']; rfl
    simp only [hw, hinf]
    rfl
  · rw [hv] at d
    have hp : 0 < (4 * sig + j) * 2 ^ E := Nat.mul_pos (by omega) (Nat.two_pow_pos _)
    cases hn : negOf double u <;> cases s <;> rw [hn] at d <;> simp only [sgn, Bool.false_eq_true, if_false, if_true] at d <;> first | rfl | omega
/-- The exact mean of two numbers. -/
theorem mean_exact {u v E : Nat} {a b h : Int} (hu : Fin64 u) (hv : Fin64 v) (ha : DV u = a * ((2 ^ E : Nat) : Int)) (hb : DV v = b * ((2 ^ E : Nat) : Int)) (hh : a + b = 2 * h) (hl : (a + b).natAbs < 1073741824) (hE : E ≤ 1300) :
    ∃ s t, floatBits .add .f64 u v = some s ∧ floatBits .quo .f64 s 4611686018427387904 = some t ∧ Fin64 t ∧ DV t = h * ((2 ^ E : Nat) : Int) := by
  have l30 : (1073741824 : Nat) = 2 ^ 30 := by decide
  have bd : ∀ M n : Nat, M = 2098 → n < 1073741824 → n * 2 ^ E < 2 ^ M := fun M n hM hn => by
    rw [l30] at hn
    have h1 := Nat.mul_lt_mul_of_pos_right hn (Nat.two_pow_pos E)
    rw [← Nat.pow_add] at h1
    exact Nat.lt_of_lt_of_le h1 (Nat.pow_le_pow_right (by omega) (by omega))
  have b53 : ∀ n : Nat, n < 1073741824 → n < 2 ^ 53 := fun n hn => Nat.lt_trans hn (by decide)
  have e1 : DV u + DV v = (a + b) * ((2 ^ E : Nat) : Int) := by rw [ha, hb, Int.add_mul]
  obtain ⟨s, s1, s2, s3, _⟩ := add_exact hu hv (sig := (a + b).natAbs) (e := E) (by rw [e1, Int.natAbs_mul, Int.natAbs_natCast]) (b53 _ hl) (bd 2098 _ rfl hl)
  have hl2 : h.natAbs < 1073741824 := by omega
  obtain ⟨t, t1, t2, t3, _⟩ := half_exact (H := h * ((2 ^ E : Nat) : Int)) s2 (by rw [s3, e1, hh, Int.mul_assoc]) (sig := h.natAbs) (e := E) (by rw [Int.natAbs_mul, Int.natAbs_natCast]) (b53 _ hl2) (bd 2098 _ rfl hl2)
  exact ⟨s, t, s1, t1, t2, t3⟩
theorem parts32 {x : Nat} (h : rungAt single x < 2139095040) : ∃ sig q : Nat, rungAt single x = q * 8388608 + sig ∧ rv single (rungAt single x) = sig * 2 ^ q ∧ sig < 16777216 ∧ (q = 0 ∨ 8388608 ≤ sig) ∧ q ≤ 254 := by
  obtain ⟨m, k, _, v, l, n, r⟩ := read_finite single h
  rw [single_binade] at l n r
  refine ⟨m, k, ?_, v.symm, l, n, ?_⟩
  · by_cases h0 : m = 0
    · subst h0
      rw [Nat.zero_mul] at v
      have : rungAt single x = 0 := (rv_inj single).1 (v.symm.trans (rv_zero single).symm)
      omega
    · exact (r h0).symm
  · by_cases h0 : m = 0
    · omega
    · have := r h0; omega
theorem rv_up {sig q : Nat} (hs : sig < 16777216) (hq : q = 0 ∨ 8388608 ≤ sig) : rv single (q * 8388608 + sig + 1) = (sig + 1) * 2 ^ q := by
  by_cases h : sig + 1 = 16777216
  · have e : q * 8388608 + sig + 1 = (q + 1) * single.binade + 8388608 := by rw [single_binade]; omega
    rw [e, rv_of single (by rw [single_binade]; decide) (.inr (by rw [single_binade]; exact Nat.le_refl _)), h, Nat.pow_succ, Nat.mul_comm (2 ^ q) 2, ← Nat.mul_assoc]
  · have e : q * 8388608 + sig + 1 = q * single.binade + (sig + 1) := by rw [single_binade]; omega
    rw [e, rv_of single (by rw [single_binade]; omega) (by rw [single_binade]; omega)]
theorem dv_cv {x : Nat} (h : rungAt single x < 2139095040) : Fin64 (cv x) ∧ DV (cv x) = sgn (negOf single x) (rv single (rungAt single x) * 2 ^ sc) ∧ negOf double (cv x) = negOf single x := by
  obtain ⟨c1, c2, c3, _⟩ := cv_finite (x := x) h
  refine ⟨c2, ?_, c1⟩
  unfold DV; rw [c1, c3]
theorem four_pow (n q E S : Nat) (hS : S = 925) (hE : E = q + 923) : n * 2 ^ q * 2 ^ S = 4 * n * 2 ^ E := by
  rw [Nat.mul_assoc, ← Nat.pow_add, show q + S = 2 + E by omega, Nat.pow_add 2 2, Nat.mul_comm 4 n, Nat.mul_assoc]
/-- A finite number is itself when it is widened and narrowed. -/
theorem narrow_wide {x : Nat} (hx : x < 4294967296) (h : rungAt single x < 2139095040) : floatToFloatBits .f64 (cv x) .f32 = some x := by
  obtain ⟨f, d, n⟩ := dv_cv h
  obtain ⟨sig, q, r, v, s1, s2, _⟩ := parts32 h
  obtain ⟨E, hE⟩ : ∃ E, E = q + 923 := ⟨_, rfl⟩
  rw [v, four_pow sig q E sc sc_eq hE] at d
  have hu : upQ sig 0 = 0 := by unfold upQ; rw [if_neg (by omega)]
  by_cases hm : q * 8388608 + sig + 1 < 2139095040
  · obtain ⟨g, _⟩ := narrow_quarter (j := 0) hE f d (by omega) s1 s2 hm
    rw [hu, n, Nat.add_zero, ← r] at g
    rw [g]
    exact congrArg some (word_of single (x := x) hx)
  · -- the greatest number
    have hr : rungAt single x = 2139095039 := by omega
    have hx2 : x = 2139095039 ∨ x = 4286578687 := by unfold rungAt at hr; rw [single_sign] at hr; omega
    rcases hx2 with rfl | rfl <;> decide +kernel
theorem parity (j : Nat) : (2147483648 + (j + 1)) % 2 = (j + 1) % 2 := by omega
theorem key_word {s : Bool} {R : Nat} (h : R < 2147483648) : keyOf single (single.word s R) = sgn s R := by
  unfold keyOf; rw [negOf_word single s h, rungAt_word single s h]
theorem num_word {s : Bool} {R : Nat} (h : R ≤ 2139095040) : nanB .f32 (single.word s R) = false := by
  refine nanB_of_rung (k := .f32) ?_
  show rungAt single _ ≤ single.infRung
  rw [rungAt_word single s (show R < single.signWeight by rw [single_sign]; omega), single_inf]; exact h
theorem between_neg {x y j : Nat} (hrx : rungAt single x = j + 1) (hneg : negOf single x = true) (hry : rungAt single y = j) (hsy : negOf single y = true) (h : j + 1 < 2139095040) (hkx : keyOf single x = -((j + 1 : Nat) : Int)) (hky : keyOf single y = -(j : Int)) (hp : x % 2 = (j + 1) % 2) :
    ∃ s1 m1 s2 m2 s3 m3 r1 r2 r3, floatBits .add .f64 (cv x) (cv y) = some s1 ∧ floatBits .quo .f64 s1 4611686018427387904 = some m1 ∧ floatBits .add .f64 (cv x) m1 = some s2 ∧ floatBits .quo .f64 s2 4611686018427387904 = some m2 ∧
      floatBits .add .f64 (cv y) m1 = some s3 ∧ floatBits .quo .f64 s3 4611686018427387904 = some m3 ∧ floatToFloatBits .f64 m1 .f32 = some r1 ∧ floatToFloatBits .f64 m2 .f32 = some r2 ∧ floatToFloatBits .f64 m3 .f32 = some r3 ∧
      nanB .f32 r1 = false ∧ nanB .f32 r2 = false ∧ nanB .f32 r3 = false ∧ keyOf single r1 = keyOf single (if x % 2 = 1 then y else x) ∧ keyOf single r2 = keyOf single x ∧ keyOf single r3 = keyOf single y := by
  have hy : rungAt single y < 2139095040 := by rw [hry]; omega
  obtain ⟨fx, dx, _⟩ := dv_cv (x := x) (by rw [hrx]; exact h)
  obtain ⟨fy, dy, _⟩ := dv_cv hy
  have u1 : ∀ s, upQ s 1 = 0 := fun s => by unfold upQ; rw [if_neg (by omega)]
  have u2 : ∀ s, upQ s 2 = s % 2 := fun s => by unfold upQ; split <;> omega
  have u3 : ∀ s, upQ s 3 = 1 := fun s => by unfold upQ; rw [if_pos (.inl rfl)]
  obtain ⟨sig, q, r, v, b1, b2, b3⟩ := parts32 hy
  rw [hry] at r v
  obtain ⟨E, HE, hE3⟩ : ∃ E, Go.RowKit.Hid (E = q + 923) ∧ E ≤ 1300 := ⟨q + 923, Lib.hid rfl, by omega⟩
  have vx : rv single (j + 1) = (sig + 1) * 2 ^ q := by rw [r]; exact rv_up b1 b2
  rw [hrx, hneg, vx, four_pow (sig + 1) q E sc sc_eq HE.out] at dx
  rw [hry, hsy, v, four_pow sig q E sc sc_eq HE.out] at dy
  have cx : DV (cv x) = (-(4 * (sig : Int) + 4)) * ((2 ^ E : Nat) : Int) := by
    rw [dx]; simp only [sgn, if_true]; rw [Int.natCast_mul, Int.neg_mul]; congr 2
  have cy : DV (cv y) = (-(4 * (sig : Int))) * ((2 ^ E : Nat) : Int) := by
    rw [dy]; simp only [sgn, if_true]; rw [Int.natCast_mul, Int.neg_mul]; congr 2
  have hlt : q * 8388608 + sig + 1 < 2139095040 := by rw [← r]; exact h
  obtain ⟨s1, m1, a1, q1, f1, d1⟩ := mean_exact (h := -(4 * (sig : Int) + 2)) fx fy cx cy (by omega) (by omega) hE3
  obtain ⟨s2, m2, a2, q2, f2, d2⟩ := mean_exact (h := -(4 * (sig : Int) + 3)) fx f1 cx d1 (by omega) (by omega) hE3
  obtain ⟨s3, m3, a3, q3, f3, d3⟩ := mean_exact (h := -(4 * (sig : Int) + 1)) fy f1 cy d1 (by omega) (by omega) hE3
  have w : ∀ k : Nat, (-(4 * (sig : Int) + (k : Int))) * ((2 ^ E : Nat) : Int) = sgn true ((4 * sig + k) * 2 ^ E) := fun k => by
    simp only [sgn, if_true]; rw [Int.natCast_mul, Int.neg_mul]; congr 2
  obtain ⟨g1, t1⟩ := narrow_quarter (j := 2) (s := true) HE.out f1 (by rw [d1]; exact w 2) (by omega) b1 b2 hlt
  obtain ⟨g2, t2⟩ := narrow_quarter (j := 3) (s := true) HE.out f2 (by rw [d2]; exact w 3) (by omega) b1 b2 hlt
  obtain ⟨g3, t3⟩ := narrow_quarter (j := 1) (s := true) HE.out f3 (by rw [d3]; exact w 1) (by omega) b1 b2 hlt
  rw [t1 (by omega), u2] at g1
  rw [t2 (by omega), u3] at g2
  rw [t3 (by omega), u1] at g3
  clear hrx hry hsy hneg w d1 d2 d3 f1 f2 f3 t1 t2 t3 cx cy dx dy fx fy hy h vx v u1 u2 u3 HE
  subst r
  have hR : ∀ k, k ≤ 1 → q * 8388608 + sig + k ≤ 2139095040 := fun k hk => Nat.le_trans (Nat.add_le_add_left hk _) (Nat.le_of_lt hlt)
  have kw : ∀ k, k ≤ 1 → keyOf single (single.word true (q * 8388608 + sig + k)) = -((q * 8388608 + sig + k : Nat) : Int) := fun k hk => by
    rw [key_word (Nat.lt_of_le_of_lt (hR k hk) (by decide))]
    simp only [sgn, if_true]
  have l2 : sig % 2 ≤ 1 := by omega
  clear hlt
  refine ⟨s1, m1, s2, m2, s3, m3, _, _, _, a1, q1, a2, q2, a3, q3, g1, g2, g3, num_word (hR _ l2), num_word (hR 1 (Nat.le_refl _)), num_word (hR 0 (Nat.zero_le _)), ?_, ?_, ?_⟩
  · rw [kw _ l2, hp]
    clear kw hR
    split
    · rw [hky]; omega
    · rw [hkx]; omega
  · rw [kw 1 (Nat.le_refl _), hkx]
  · rw [kw 0 (Nat.zero_le _), hky, Nat.add_zero]
/-- What lies between a number and the next one, made in 64 bits and narrowed. -/
theorem between {x : Nat} (hx : x < 4294967296) (h : rungAt single x < 2139095040) (hy : rungAt single (nextF x) < 2139095040) :
    ∃ s1 m1 s2 m2 s3 m3 r1 r2 r3, floatBits .add .f64 (cv x) (cv (nextF x)) = some s1 ∧ floatBits .quo .f64 s1 4611686018427387904 = some m1 ∧ floatBits .add .f64 (cv x) m1 = some s2 ∧ floatBits .quo .f64 s2 4611686018427387904 = some m2 ∧
      floatBits .add .f64 (cv (nextF x)) m1 = some s3 ∧ floatBits .quo .f64 s3 4611686018427387904 = some m3 ∧ floatToFloatBits .f64 m1 .f32 = some r1 ∧ floatToFloatBits .f64 m2 .f32 = some r2 ∧ floatToFloatBits .f64 m3 .f32 = some r3 ∧
      nanB .f32 r1 = false ∧ nanB .f32 r2 = false ∧ nanB .f32 r3 = false ∧ keyOf single r1 = keyOf single (if x % 2 = 1 then nextF x else x) ∧ keyOf single r2 = keyOf single x ∧ keyOf single r3 = keyOf single (nextF x) := by
  have hn : nanB .f32 x = false := nanB_of_rung (k := .f32) (by show rungAt single x ≤ single.infRung; rw [single_inf]; omega)
  have hi : x ≠ 2139095040 := fun e => by subst e; revert h; decide +kernel
  obtain ⟨fx, dx, _⟩ := dv_cv h
  obtain ⟨fy, dy, _⟩ := dv_cv hy
  have u1 : ∀ s, upQ s 1 = 0 := fun s => by unfold upQ; rw [if_neg (by omega)]
  have u2 : ∀ s, upQ s 2 = s % 2 := fun s => by unfold upQ; split <;> omega
  have u3 : ∀ s, upQ s 3 = 1 := fun s => by unfold upQ; rw [if_pos (.inl rfl)]
  by_cases hz : keyOf single x < 0
  · -- below zero
    have hneg : negOf single x = true := by
      unfold keyOf at hz
      cases e : negOf single x
      · rw [e] at hz; simp only [sgn, Bool.false_eq_true, if_false] at hz; omega
      · rfl
    have hbig := neg_big hx hneg
    obtain ⟨m, rfl⟩ := Nat.exists_eq_add_of_le hbig
    have hm : m < 2147483648 := by omega
    have hrx : rungAt single (2147483648 + m) = m := by unfold rungAt; rw [single_sign, Nat.add_mod_left, Nat.mod_eq_of_lt hm]
    have hkx := key_neg2 hm
    obtain ⟨j, rfl⟩ : ∃ j, m = j + 1 := ⟨m - 1, by omega⟩
    have hny : nextF (2147483648 + (j + 1)) = 2147483648 + j := by
      unfold nextF; rw [hn, if_neg (by decide), if_neg hi, hrx, if_neg (by omega), hneg, if_pos rfl]; omega
    rw [hny]
    have hj : j < 2147483648 := by omega
    have hry : rungAt single (2147483648 + j) = j := by unfold rungAt; rw [single_sign, Nat.add_mod_left, Nat.mod_eq_of_lt hj]
    have hsy : negOf single (2147483648 + j) = true := by unfold negOf; rw [single_sign, show (2147483648 + j) / 2147483648 = 1 by omega]; rfl
    have hky := key_neg2 hj
    exact between_neg hrx hneg hry hsy (by rw [hrx] at h; exact h) hkx hky (parity j)
  · have hr : nextF x = rungAt single x + 1 ∧ (negOf single x = true → rungAt single x = 0) ∧ x % 2 = rungAt single x % 2 ∧ keyOf single x = (rungAt single x : Int) := by
      by_cases hl : x < 2147483648
      · have e1 : rungAt single x = x := Nat.mod_eq_of_lt hl
        have e2 : negOf single x = false := by unfold negOf; rw [single_sign, Nat.div_eq_of_lt hl]; rfl
        refine ⟨?_, fun e => (by rw [e2] at e; cases e), by rw [e1], by rw [e1]; exact key_pos hl⟩
        unfold nextF; rw [hn, if_neg (by decide), if_neg hi, e1, e2]
        by_cases h0 : x = 0
        · rw [if_pos h0, h0]
        · rw [if_neg h0, if_neg (by decide)]
      · have e0 : x = 2147483648 := by
          rw [key_negv (by omega) hx] at hz; omega
        subst e0
        refine ⟨by decide +kernel, fun _ => by decide +kernel, by decide +kernel, by decide +kernel⟩
    obtain ⟨hny, hs0, hpar, hkx⟩ := hr
    obtain ⟨sig, q, r, v, b1, b2, b3⟩ := parts32 h
    rw [hny] at dy fy hy ⊢
    rw [hpar]
    have hj : rungAt single x + 1 < 2147483648 := by omega
    generalize rungAt single x = j at *
    have hry : rungAt single (j + 1) = j + 1 := Nat.mod_eq_of_lt hj
    have hsy : negOf single (j + 1) = false := by unfold negOf; rw [single_sign, Nat.div_eq_of_lt hj]; rfl
    have hky : keyOf single (j + 1) = ((j + 1 : Nat) : Int) := key_pos hj
    obtain ⟨E, HE, hE3⟩ : ∃ E, Go.RowKit.Hid (E = q + 923) ∧ E ≤ 1300 := ⟨q + 923, Lib.hid rfl, by omega⟩
    have vy : rv single (j + 1) = (sig + 1) * 2 ^ q := by rw [r]; exact rv_up b1 b2
    rw [hry, hsy, vy, four_pow (sig + 1) q E sc sc_eq HE.out] at dy
    rw [v, four_pow sig q E sc sc_eq HE.out] at dx
    rw [hry] at hy
    have cx : DV (cv x) = (4 * (sig : Int)) * ((2 ^ E : Nat) : Int) := by
      rw [dx]
      cases e : negOf single x
      · simp only [sgn, Bool.false_eq_true, if_false]; rw [Int.natCast_mul]; congr 1
      · have : j = 0 := hs0 e
        have s0 : sig = 0 := by omega
        rw [s0]; simp [sgn]
    have cy : DV (cv (j + 1)) = (4 * (sig : Int) + 4) * ((2 ^ E : Nat) : Int) := by
      rw [dy]; simp only [sgn, Bool.false_eq_true, if_false]; rw [Int.natCast_mul]; congr 1
    have hlt : q * 8388608 + sig + 1 < 2139095040 := by rw [← r]; exact hy
    obtain ⟨s1, m1, a1, q1, f1, d1⟩ := mean_exact (h := 4 * (sig : Int) + 2) fx fy cx cy (by omega) (by omega) hE3
    obtain ⟨s2, m2, a2, q2, f2, d2⟩ := mean_exact (h := 4 * (sig : Int) + 1) fx f1 cx d1 (by omega) (by omega) hE3
    obtain ⟨s3, m3, a3, q3, f3, d3⟩ := mean_exact (h := 4 * (sig : Int) + 3) fy f1 cy d1 (by omega) (by omega) hE3
    have w : ∀ k : Nat, (4 * (sig : Int) + (k : Int)) * ((2 ^ E : Nat) : Int) = sgn false ((4 * sig + k) * 2 ^ E) := fun k => by
      simp only [sgn, Bool.false_eq_true, if_false]; rw [Int.natCast_mul]; congr 1
    obtain ⟨g1, t1⟩ := narrow_quarter (j := 2) (s := false) HE.out f1 (by rw [d1]; exact w 2) (by omega) b1 b2 hlt
    obtain ⟨g2, t2⟩ := narrow_quarter (j := 1) (s := false) HE.out f2 (by rw [d2]; exact w 1) (by omega) b1 b2 hlt
    obtain ⟨g3, t3⟩ := narrow_quarter (j := 3) (s := false) HE.out f3 (by rw [d3]; exact w 3) (by omega) b1 b2 hlt
    rw [t1 (by omega), u2] at g1
    rw [t2 (by omega), u1] at g2
    rw [t3 (by omega), u3] at g3
    clear hry hsy hj hx hi hn hny w d1 d2 d3 f1 f2 f3 t1 t2 t3 cx cy dx dy fx fy hz hy h vy v u1 u2 u3 HE hs0 hpar
    subst r
    have hR : ∀ k, k ≤ 1 → q * 8388608 + sig + k ≤ 2139095040 := fun k hk => Nat.le_trans (Nat.add_le_add_left hk _) (Nat.le_of_lt hlt)
    have kw : ∀ k, k ≤ 1 → keyOf single (single.word false (q * 8388608 + sig + k)) = ((q * 8388608 + sig + k : Nat) : Int) := fun k hk => by
      rw [key_word (Nat.lt_of_le_of_lt (hR k hk) (by decide))]
      simp only [sgn, if_false, Bool.false_eq_true]
    have l2 : sig % 2 ≤ 1 := by omega
    clear hlt
    refine ⟨s1, m1, s2, m2, s3, m3, _, _, _, a1, q1, a2, q2, a3, q3, g1, g2, g3, num_word (hR _ l2), num_word (hR 0 (Nat.zero_le _)), num_word (hR 1 (Nat.le_refl _)), ?_, ?_, ?_⟩
    · rw [kw _ l2]
      clear kw hR
      split
      · rw [hky]; omega
      · rw [hkx]; omega
    · rw [kw 0 (Nat.zero_le _), hkx, Nat.add_zero]
    · rw [kw 1 (Nat.le_refl _), hky]
end Go.Proofs.Ytcmmafkmfahijaa
