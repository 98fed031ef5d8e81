/- Plain facts on bounds of 64-bit numbers: a finite number of at most 2 to some power; the four operations and the square root keep such bounds; a number that is not too great narrows to one 32-bit number. Conditions: as each fact says. -/
import Derived.Test.YtcmmafkmfahijaaConv
namespace Go.Proofs.Ytcmmafkmfahijaa
open Ieee

/-- x is a finite 64-bit number of at most 2 to the power of k - 1023. -/
def Bd (k x : Nat) : Prop := rungAt double x ≤ k * 4503599627370496

theorem pow_shift {m b e : Nat} (h : m * 2 ^ b ≤ 2 ^ e) : m * 2 ^ (b - e) ≤ 2 ^ (e - b) := by
  by_cases hb : b ≤ e
  · have e1 : b - e = 0 := by omega
    rw [e1, Nat.pow_zero, Nat.mul_one]
    have e2 : e = (e - b) + b := by omega
    rw [e2, Nat.pow_add] at h
    exact Nat.le_of_mul_le_mul_right h (Nat.two_pow_pos b)
  · have e1 : e - b = 0 := by omega
    rw [e1, Nat.pow_zero]
    have e2 : b = (b - e) + e := by omega
    rw [e2, Nat.pow_add, ← Nat.mul_assoc] at h
    have h' : m * 2 ^ (b - e) * 2 ^ e ≤ 1 * 2 ^ e := by rw [Nat.one_mul]; exact h
    exact Nat.le_of_mul_le_mul_right h' (Nat.two_pow_pos e)

theorem rv_pow (f : Format) {k : Nat} (hk : 1 ≤ k) : rv f (k * f.binade) = 2 ^ (f.fractionBits + k - 1) := by
  have hb := binade_pos f
  have h1 := rv_of f (sig := f.binade) (e := k - 1) (by omega) (.inr (Nat.le_refl _))
  have e : k * f.binade = (k - 1) * f.binade + f.binade := by
    obtain ⟨j, rfl⟩ : ∃ j, k = j + 1 := ⟨k - 1, by omega⟩
    rw [Nat.add_sub_cancel, Nat.succ_mul]
  rw [e, h1]
  show 2 ^ f.fractionBits * _ = _
  rw [← Nat.pow_add]; congr 1; omega

theorem rv_mono (f : Format) {r q : Nat} (h : r ≤ q) : rv f r ≤ rv f q := by
  rcases Nat.lt_or_eq_of_le h with h | rfl
  · exact Nat.le_of_lt (rv_lt f h)
  · exact Nat.le_refl _

/-- What a bounded number reads as. -/
theorem bd_read {k x : Nat} (hk : 1 ≤ k) (hk2 : k ≤ 2046) (h : Bd k x) :
    ∃ (m j : Nat), double.read x = .number (negOf double x) m (-1074 + (j : Int)) ∧ m * 2 ^ j = rv double (rungAt double x) ∧ m * 2 ^ j ≤ 2 ^ (51 + k) ∧ m < 9007199254740992 ∧ (j = 0 ∨ 4503599627370496 ≤ m) := by
  have hi : rungAt double x < double.infRung := by rw [double_inf]; unfold Bd at h; omega
  obtain ⟨m, j, e, v, hm, hj, _⟩ := read_finite double hi
  refine ⟨m, j, e, v, ?_, hm, hj⟩
  rw [v]
  have := rv_mono double (r := rungAt double x) (q := k * double.binade) (by rw [double_binade]; exact h)
  rw [rv_pow double hk] at this
  have e2 : double.fractionBits + k - 1 = 51 + k := by show 52 + k - 1 = _; omega
  rw [e2] at this
  exact this

theorem bd_mono {k l x : Nat} (h : Bd k x) (hkl : k ≤ l) : Bd l x := Nat.le_trans h (Nat.mul_le_mul_right _ hkl)
theorem bd_not_nan {k x : Nat} (hk2 : k ≤ 2046) (h : Bd k x) : nanB .f64 x = false := nanB_of_rung (k := .f64) (by show rungAt double x ≤ double.infRung; rw [double_inf]; unfold Bd at h; omega)

/-- A count at a place, bounded: its word is bounded. -/
theorem bd_write {s : Bool} {m : Nat} {p : Int} {k : Nat} (hk : 1 ≤ k) (hk2 : k ≤ 2046) (h : m * 2 ^ (p - (k - 1023 : Int)).toNat ≤ 2 ^ ((k - 1023 : Int) - p).toNat) :
    Bd k (double.write (.number s m p)) ∧ negOf double (double.write (.number s m p)) = s := by
  have r := rung_le double (m := m) (p := p) (k := k) hk (by
    have e : double.leastPlace + ((double.fractionBits + k - 1 : Nat) : Int) = (k - 1023 : Int) := by
      show -1074 + ((52 + k - 1 : Nat) : Int) = _; omega
    rw [e]; exact h)
  rw [double_binade] at r
  have lt : rungOf double m p < double.signWeight := by rw [double_sign]; omega
  show Bd k (double.nearest s m p) ∧ negOf double (double.nearest s m p) = s
  rw [nearest_eq]
  refine ⟨?_, negOf_word _ _ lt⟩
  unfold Bd
  rw [rungAt_word _ _ lt]; exact r

theorem natAbs_le {a b : Int} {n : Nat} (h1 : a.natAbs ≤ n) (h2 : b.natAbs ≤ n) : (a + b).natAbs ≤ 2 * n := by omega
theorem signed_abs (s : Bool) (m u : Nat) : (signed s m u).natAbs = m * 2 ^ u := by
  rw [signed_eq]
  cases s
  · exact Int.natAbs_natCast _
  · exact (Int.natAbs_neg _).trans (Int.natAbs_natCast _)

theorem sum_bound {s t : Bool} {m n i j k : Nat} (hm : m * 2 ^ i ≤ 2 ^ (51 + k)) (hn : n * 2 ^ j ≤ 2 ^ (51 + k)) :
    (signed s m (i - min i j) + signed t n (j - min i j)).natAbs * 2 ^ min i j ≤ 2 ^ (52 + k) := by
  have a1 : (signed s m (i - min i j)).natAbs * 2 ^ min i j = m * 2 ^ i := by
    rw [signed_abs, Nat.mul_assoc, ← Nat.pow_add]; congr 2; omega
  have a2 : (signed t n (j - min i j)).natAbs * 2 ^ min i j = n * 2 ^ j := by
    rw [signed_abs, Nat.mul_assoc, ← Nat.pow_add]; congr 2; omega
  generalize signed s m (i - min i j) = A at *
  generalize signed t n (j - min i j) = B at *
  have t1 : (A + B).natAbs ≤ A.natAbs + B.natAbs := Int.natAbs_add_le A B
  have t2 := Nat.mul_le_mul_right (2 ^ min i j) t1
  rw [Nat.add_mul, a1, a2] at t2
  have e : 2 ^ (52 + k) = 2 ^ (51 + k) + 2 ^ (51 + k) := by rw [show 52 + k = (51 + k) + 1 by omega, Nat.pow_succ]; omega
  omega

theorem sum_write {s t : Bool} {m n i j k : Nat} (hk2 : k ≤ 2045) (hm : m * 2 ^ i ≤ 2 ^ (51 + k)) (hn : n * 2 ^ j ≤ 2 ^ (51 + k)) :
    ∃ d, Datum.sum (.number s m (-1074 + (i : Int))) (.number t n (-1074 + (j : Int))) = some d ∧ Bd (k + 1) (double.write d) := by
  refine ⟨_, rfl, ?_⟩
  refine (bd_write (by omega) (by omega) ?_).1
  have e0 : min (-1074 + (i : Int)) (-1074 + (j : Int)) = -1074 + ((min i j : Nat) : Int) := by omega
  have e1 : (-1074 + (i : Int) - (-1074 + ((min i j : Nat) : Int))).toNat = i - min i j := by omega
  have e2 : (-1074 + (j : Int) - (-1074 + ((min i j : Nat) : Int))).toNat = j - min i j := by omega
  rw [e0, e1, e2]
  have := pow_shift (sum_bound (s := s) (t := t) hm hn)
  have e3 : (-1074 + ((min i j : Nat) : Int) - (((k + 1 : Nat) : Int) - 1023)).toNat = min i j - (52 + k) := by omega
  have e4 : ((((k + 1 : Nat) : Int) - 1023) - (-1074 + ((min i j : Nat) : Int))).toNat = 52 + k - min i j := by omega
  rw [e3, e4]; exact this

theorem fop_some {op : BinOp} {k : FloatKind} {x y r : Nat} (h : floatBits op k x y = some r) : fop op k x y = r := by unfold fop; rw [h]; rfl

theorem bd_add {k x y : Nat} (hk : 1 ≤ k) (hk2 : k ≤ 2045) (hx : Bd k x) (hy : Bd k y) : Bd (k + 1) (fop .add .f64 x y) := by
  obtain ⟨m, i, e1, _, b1, _⟩ := bd_read hk (by omega) hx
  obtain ⟨n, j, e2, _, b2, _⟩ := bd_read hk (by omega) hy
  obtain ⟨d, hd, hb⟩ := sum_write (s := negOf double x) (t := negOf double y) hk2 b1 b2
  have : floatBits .add .f64 x y = some (double.write d) := by
    show double.add x y = _
    unfold Format.add
    rw [e1, e2, hd]; rfl
  rw [fop_some this]; exact hb
theorem bd_sub {k x y : Nat} (hk : 1 ≤ k) (hk2 : k ≤ 2045) (hx : Bd k x) (hy : Bd k y) : Bd (k + 1) (fop .sub .f64 x y) := by
  obtain ⟨m, i, e1, _, b1, _⟩ := bd_read hk (by omega) hx
  obtain ⟨n, j, e2, _, b2, _⟩ := bd_read hk (by omega) hy
  obtain ⟨d, hd, hb⟩ := sum_write (s := negOf double x) (t := !negOf double y) hk2 b1 b2
  have : floatBits .sub .f64 x y = some (double.write d) := by
    show double.sub x y = _
    unfold Format.sub
    rw [e1, e2]
    show (Datum.sum (.number (negOf double x) m (-1074 + (i : Int))) (.number (!negOf double y) n (-1074 + (j : Int)))).map double.write = _
    rw [hd]; rfl
  rw [fop_some this]; exact hb

theorem bd_mul {a b c x y : Nat} (ha : 1 ≤ a) (ha2 : a ≤ 2046) (hb : 1 ≤ b) (hb2 : b ≤ 2046) (hc : 1 ≤ c) (hc2 : c ≤ 2046) (habc : a + b ≤ c + 1023) (hx : Bd a x) (hy : Bd b y) : Bd c (fop .mul .f64 x y) := by
  obtain ⟨m, i, e1, _, b1, _⟩ := bd_read ha ha2 hx
  obtain ⟨n, j, e2, _, b2, _⟩ := bd_read hb hb2 hy
  have h1 : (m * n) * 2 ^ (i + j) ≤ 2 ^ (1125 + c) := by
    have h := Nat.mul_le_mul b1 b2
    rw [← Nat.pow_add] at h
    have e : m * 2 ^ i * (n * 2 ^ j) = (m * n) * 2 ^ (i + j) := by
      rw [Nat.pow_add, Nat.mul_assoc, Nat.mul_assoc]; congr 1
      rw [← Nat.mul_assoc, Nat.mul_comm (2 ^ i) n, Nat.mul_assoc]
    rw [e] at h
    exact Nat.le_trans h (Nat.pow_le_pow_right (by omega) (by omega))
  have h2 := pow_shift h1
  have : floatBits .mul .f64 x y = some (double.write (.number (negOf double x ^^ negOf double y) (m * n) ((-1074 + (i : Int)) + (-1074 + (j : Int))))) := by
    show double.mul x y = _
    unfold Format.mul
    rw [e1, e2]; rfl
  rw [fop_some this]
  refine (bd_write hc hc2 ?_).1
  have e3 : (-1074 + (i : Int) + (-1074 + (j : Int)) - ((c : Int) - 1023)).toNat = (i + j) - (1125 + c) := by omega
  have e4 : (((c : Int) - 1023) - (-1074 + (i : Int) + (-1074 + (j : Int)))).toNat = 1125 + c - (i + j) := by omega
  rw [e3, e4]; exact h2

/-- y is a finite number whose absolute value is at least 2 to the power of b - 1023. -/
def Lo (b y : Nat) : Prop := b * 4503599627370496 ≤ rungAt double y ∧ rungAt double y < 9218868437227405312

/-- A bound by the places: strictly below a power of two. -/
theorem bd_write_log {s : Bool} {m : Nat} {p : Int} {k : Nat} (hk : 1 ≤ k) (hk2 : k ≤ 2046) (h : m = 0 ∨ p + m.log2 < (k - 1023 : Int)) : Bd k (double.write (.number s m p)) := by
  refine (bd_write hk hk2 ?_).1
  rcases h with rfl | h
  · rw [Nat.zero_mul]; exact Nat.zero_le _
  · have l : m < 2 ^ (m.log2 + 1) := Nat.lt_log2_self
    refine Nat.le_trans (Nat.mul_le_mul_right _ (Nat.le_of_lt l)) ?_
    rw [← Nat.pow_add]
    exact Nat.pow_le_pow_right (by omega) (by omega)

theorem log_of {m j e : Nat} (h0 : m ≠ 0) (h : m * 2 ^ j ≤ 2 ^ e) : m.log2 + j ≤ e := by
  have l : 2 ^ m.log2 ≤ m := Nat.log2_self_le h0
  have := Nat.le_trans (Nat.mul_le_mul_right _ l) h
  rw [← Nat.pow_add] at this
  exact (Nat.pow_le_pow_iff_right (by omega)).1 this

theorem lo_read {b y : Nat} (hb : 1 ≤ b) (h : Lo b y) : ∃ (n j : Nat), double.read y = .number (negOf double y) n (-1074 + (j : Int)) ∧ n ≠ 0 ∧ n.log2 = 52 ∧ b ≤ j + 1 := by
  obtain ⟨h1, h2⟩ := h
  obtain ⟨n, j, e, v, hn, hj, hr⟩ := read_finite double (x := y) h2
  have hn0 : n ≠ 0 := by
    rintro rfl
    rw [Nat.zero_mul] at v
    have : rungAt double y = 0 := (rv_inj double).1 (by rw [← v, rv_zero])
    omega
  have hr' := hr hn0
  rw [double_binade] at hr' hj hn
  have hj2 : 4503599627370496 ≤ n := by
    rcases hj with rfl | hj
    · omega
    · exact hj
  refine ⟨n, j, e, hn0, ?_, by omega⟩
  exact Nat.le_antisymm (Nat.lt_succ_iff.1 ((Nat.log2_lt hn0).2 (by omega))) ((Nat.le_log2 hn0).2 (by omega))

theorem bd_quo {a b c x y : Nat} (ha : 1 ≤ a) (ha2 : a ≤ 2046) (hb : 1 ≤ b) (hc : 1 ≤ c) (hc2 : c ≤ 2046) (habc : a + 1024 ≤ c + b) (hx : Bd a x) (hy : Lo b y) : Bd c (fop .quo .f64 x y) := by
  obtain ⟨m, i, e1, _, b1, hm, _⟩ := bd_read ha ha2 hx
  obtain ⟨n, j, e2, hn0, hn, hj⟩ := lo_read hb hy
  have hml : m.log2 ≤ 52 := by
    by_cases h0 : m = 0
    · subst h0; decide
    · exact Nat.lt_succ_iff.1 ((Nat.log2_lt h0).2 (by omega))
  have : floatBits .quo .f64 x y = some (double.write (.number (negOf double x ^^ negOf double y) (2 * (m <<< (54 + n.log2 - m.log2) / n) + (m <<< (54 + n.log2 - m.log2) % n != 0).toNat) ((-1074 + (i : Int)) - (-1074 + (j : Int)) - (54 + n.log2 - m.log2 : Nat) - 1))) := by
    show double.div x y = _
    unfold Format.div
    rw [e1, e2]
    show (Datum.quotient 54 _ _).map double.write = _
    simp only [Datum.quotient, if_neg hn0, Option.map_some]
  rw [fop_some this]
  refine bd_write_log hc hc2 ?_
  by_cases h0 : m = 0
  · subst h0
    left; simp
  · right
    have lm := log_of h0 b1
    have l : m < 2 ^ (m.log2 + 1) := Nat.lt_log2_self
    have ln : 2 ^ n.log2 ≤ n := Nat.log2_self_le hn0
    rw [hn] at ln
    have hD : m <<< (54 + n.log2 - m.log2) < 2 ^ 55 * n := by
      rw [Nat.shiftLeft_eq]
      have h1 := Nat.mul_lt_mul_of_pos_right l (Nat.two_pow_pos (54 + n.log2 - m.log2))
      rw [← Nat.pow_add, hn, show m.log2 + 1 + (54 + 52 - m.log2) = 55 + 52 by omega, Nat.pow_add] at h1
      rw [hn]
      exact Nat.lt_of_lt_of_le h1 (Nat.mul_le_mul_left _ ln)
    have hq : m <<< (54 + n.log2 - m.log2) / n < 2 ^ 55 := (Nat.div_lt_iff_lt_mul (by omega)).2 hD
    generalize hQ : m <<< (54 + n.log2 - m.log2) / n = q at *
    generalize (m <<< (54 + n.log2 - m.log2) % n != 0) = st at *
    have hs : st.toNat ≤ 1 := Bool.toNat_le _
    have hmag : 2 * q + st.toNat < 2 ^ 56 := by
      have : (2 : Nat) ^ 56 = 2 * 2 ^ 55 := by decide
      omega
    have hlog : (2 * q + st.toNat).log2 ≤ 55 := by
      by_cases hz : 2 * q + st.toNat = 0
      · rw [hz]; decide
      · exact Nat.lt_succ_iff.1 ((Nat.log2_lt hz).2 hmag)
    rw [hn]
    omega

/-- NARROWING a number that is not too great: one 32-bit number. -/
theorem narrow_bd {k u : Nat} (hk : 1 ≤ k) (hk2 : k ≤ 1150) (h : Bd k u) : ∃ c, floatToFloatBits .f64 u .f32 = some c := by
  obtain ⟨K, hK⟩ : ∃ K : Nat, K = 1150 := ⟨_, rfl⟩
  obtain ⟨m, j, e1, _, b1, _⟩ := bd_read (k := K) (by omega) (by omega) (bd_mono h (by omega))
  have hr := rung_le single (m := m) (p := -1074 + (j : Int)) (k := 254) (by omega) (by
    have e : single.leastPlace + ((single.fractionBits + 254 - 1 : Nat) : Int) = 127 := by
      show (-149 : Int) + ((23 + 254 - 1 : Nat) : Int) = 127
      omega
    rw [e]
    have := pow_shift b1
    have e3 : (-1074 + (j : Int) - 127).toNat = j - (51 + K) := by omega
    have e4 : ((127 : Int) - (-1074 + (j : Int))).toNat = 51 + K - j := by omega
    rw [e3, e4]; exact this)
  rw [single_binade] at hr
  have lt : rungOf single m (-1074 + (j : Int)) < single.signWeight := by rw [single_sign]; omega
  have hinf : (single.read (single.word (negOf double u) (rungOf single m (-1074 + (j : Int))))).isInfinity = false := by
    obtain ⟨m', k', e', _⟩ := read_finite single (x := single.word (negOf double u) (rungOf single m (-1074 + (j : Int)))) (by rw [rungAt_word _ _ lt, single_inf]; omega)
    rw [e']; rfl
  have hw : single.write (.number (negOf double u) m (-1074 + (j : Int))) = single.word (negOf double u) (rungOf single m (-1074 + (j : Int))) := by
    show single.nearest _ _ _ = _
    rw [nearest_eq]
  refine ⟨single.word (negOf double u) (rungOf single m (-1074 + (j : Int))), ?_⟩
  unfold floatToFloatBits
  rw [if_neg (by decide)]
  show (match double.read u with | .nan _ _ => none | .infinity s => some (single.write (.infinity s)) | .number s m e => if (single.read (single.write (.number s m e))).isInfinity then none else some (single.write (.number s m e))) = _
  rw [e1]
  simp only [hw, hinf]
  rfl
/-- The narrowed number as a plain function. -/
def nar (u : Nat) : Nat := (floatToFloatBits .f64 u .f32).getD (cnan .f32)
theorem cv_bd {x : Nat} (h : rungAt single x < single.infRung) : Bd 1151 (cv x) := by
  obtain ⟨_, _, v, _⟩ := cv_finite h
  obtain ⟨K, hK⟩ : ∃ K : Nat, K = 255 := ⟨_, rfl⟩
  obtain ⟨L, hL⟩ : ∃ L : Nat, L = 1151 := ⟨_, rfl⟩
  have h1 : rv single (rungAt single x) ≤ rv single (K * single.binade) := rv_mono single (by rw [single_inf] at h; rw [single_binade]; omega)
  rw [rv_pow single (by omega)] at h1
  have h2 : rv double (rungAt double (cv x)) ≤ rv double (L * double.binade) := by
    rw [v, rv_pow double (by omega)]
    have h3 := Nat.mul_le_mul_right (2 ^ sc) h1
    rw [← Nat.pow_add] at h3
    have e : single.fractionBits + K - 1 + sc = double.fractionBits + L - 1 := by
      show 23 + K - 1 + sc = 52 + L - 1
      rw [sc_eq]; omega
    rw [e] at h3
    exact h3
  unfold Bd
  rw [← hL, ← double_binade]
  rcases Nat.lt_or_ge (L * double.binade) (rungAt double (cv x)) with h4 | h4
  · have := rv_lt double h4; omega
  · exact h4
end Go.Proofs.Ytcmmafkmfahijaa
