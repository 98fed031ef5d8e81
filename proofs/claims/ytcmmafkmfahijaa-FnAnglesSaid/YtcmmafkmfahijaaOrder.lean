/- Plain facts on the order of numbers: it is the order of their rungs, with the sign. Conditions: as each fact says. -/
import Derived.Test.YtcmmafkmfahijaaNum
namespace Go.Proofs.Ytcmmafkmfahijaa
open Ieee

/-- The value of a rung, in units of the least place. -/
def rv (f : Format) (r : Nat) : Nat := if r < f.binade then r else (f.binade + r % f.binade) * 2 ^ (r / f.binade - 1)

theorem binade_pos (f : Format) : 0 < f.binade := Nat.two_pow_pos _

theorem rv_succ (f : Format) (r : Nat) : rv f r < rv f (r + 1) := by
  have hb := binade_pos f
  unfold rv
  generalize f.binade = B at *
  by_cases h1 : r + 1 < B
  · rw [if_pos (by omega), if_pos h1]; omega
  · by_cases h2 : r < B
    · obtain rfl : r + 1 = B := by omega
      rw [if_pos h2, if_neg h1, Nat.mod_self, Nat.div_self hb]; simp
    · rw [if_neg h2, if_neg h1]
      have e := Nat.div_add_mod r B
      have l := Nat.mod_lt r hb
      have q1 : 1 ≤ r / B := (Nat.le_div_iff_mul_le hb).2 (by omega)
      by_cases h3 : r % B + 1 = B
      · have e2 : r + 1 = B * (r / B + 1) := by rw [Nat.mul_add]; omega
        have d : (r + 1) / B = r / B + 1 := by rw [e2, Nat.mul_div_cancel_left _ hb]
        have m : (r + 1) % B = 0 := by rw [e2, Nat.mul_mod_right]
        rw [d, m]
        obtain ⟨k, hk⟩ : ∃ k, r / B = k + 1 := ⟨r / B - 1, by omega⟩
        rw [hk, Nat.add_sub_cancel, Nat.add_sub_cancel, Nat.add_zero, Nat.pow_succ]
        have p := Nat.two_pow_pos k
        have e3 : B * (2 ^ k * 2) = (2 * B) * 2 ^ k := by rw [Nat.mul_comm (2 ^ k) 2, ← Nat.mul_assoc, Nat.mul_comm B 2]
        rw [e3]
        exact Nat.mul_lt_mul_of_pos_right (by omega) p
      · have e2 : r + 1 = r % B + 1 + B * (r / B) := by omega
        have d : (r + 1) / B = r / B := by rw [e2, Nat.add_mul_div_left _ _ hb, Nat.div_eq_of_lt (by omega), Nat.zero_add]
        have m : (r + 1) % B = r % B + 1 := by rw [e2, Nat.add_mul_mod_self_left, Nat.mod_eq_of_lt (by omega)]
        rw [d, m]
        exact Nat.mul_lt_mul_of_pos_right (by omega) (Nat.two_pow_pos _)

theorem rv_lt (f : Format) {r q : Nat} (h : r < q) : rv f r < rv f q := by
  induction q with
  | zero => omega
  | succ q ih =>
    by_cases e : r = q
    · subst e; exact rv_succ f r
    · exact Nat.lt_trans (ih (by omega)) (rv_succ f q)

theorem rv_lt_iff (f : Format) {r q : Nat} : rv f r < rv f q ↔ r < q := by
  refine ⟨fun h => ?_, rv_lt f⟩
  rcases Nat.lt_trichotomy r q with e | e | e
  · exact e
  · subst e; omega
  · have := rv_lt f e; omega
theorem rv_inj (f : Format) {r q : Nat} : rv f r = rv f q ↔ r = q := by
  refine ⟨fun h => ?_, fun h => by rw [h]⟩
  rcases Nat.lt_trichotomy r q with e | e | e
  · have := rv_lt f e; omega
  · exact e
  · have := rv_lt f e; omega
theorem rv_zero (f : Format) : rv f 0 = 0 := by unfold rv; rw [if_pos (binade_pos f)]

/-- The sign of a word, its rung, and both as one number. -/
def negOf (f : Format) (x : Nat) : Bool := x / f.signWeight % 2 == 1
def rungAt (f : Format) (x : Nat) : Nat := x % f.signWeight
def sgn (s : Bool) (n : Nat) : Int := if s then -(n : Int) else (n : Int)
def keyOf (f : Format) (x : Nat) : Int := sgn (negOf f x) (rungAt f x)

theorem signed_eq (s : Bool) (m u : Nat) : signed s m u = sgn s (m * 2 ^ u) := by
  unfold signed sgn; rw [Nat.shiftLeft_eq]

/-- What a finite word stands for: a count and a place whose product is the rung's value. -/
theorem read_finite (f : Format) {x : Nat} (h : rungAt f x < f.infRung) :
    ∃ (m k : Nat), f.read x = .number (negOf f x) m (f.leastPlace + k) ∧ m * 2 ^ k = rv f (rungAt f x) ∧ m < 2 * f.binade ∧ (k = 0 ∨ f.binade ≤ m) ∧ (m ≠ 0 → k * f.binade + m = rungAt f x) := by
  have hb := binade_pos f
  unfold Format.read rv negOf rungAt at *
  dsimp only
  by_cases h1 : x % f.signWeight < f.binade
  · rw [if_pos h1, if_pos h1]
    exact ⟨_, 0, by rw [Int.natCast_zero, Int.add_zero], by simp, by omega, .inl rfl, fun _ => by simp⟩
  · rw [if_neg h1, if_neg h1, if_pos h]
    have l := Nat.mod_lt (x % f.signWeight) hb
    have e := Nat.div_add_mod (x % f.signWeight) f.binade
    have q1 : 1 ≤ x % f.signWeight / f.binade := (Nat.le_div_iff_mul_le hb).2 (by omega)
    refine ⟨_, _, rfl, rfl, by omega, .inr (by omega), fun _ => ?_⟩
    generalize x % f.signWeight / f.binade = q at *
    obtain ⟨j, rfl⟩ : ∃ j, q = j + 1 := ⟨q - 1, by omega⟩
    rw [Nat.add_sub_cancel]
    rw [Nat.mul_comm, Nat.succ_mul] at e
    omega

theorem read_inf (f : Format) {x : Nat} (hb : f.binade ≤ f.infRung) (h : rungAt f x = f.infRung) : f.read x = .infinity (negOf f x) := by
  unfold Format.read negOf; unfold rungAt at h
  dsimp only
  rw [if_neg (by omega), if_neg (by omega), if_pos h]

theorem cmp_congr {a b c d : Int} (h1 : a < b ↔ c < d) (h2 : a = b ↔ c = d) : compare a b = compare c d := by
  show compareOfLessAndEq a b = compareOfLessAndEq c d
  unfold compareOfLessAndEq
  simp only [h1, h2]
theorem cmp_lt {a b : Int} (h : a < b) : compare a b = .lt := by
  show compareOfLessAndEq a b = _
  unfold compareOfLessAndEq; rw [if_pos h]
theorem cmp_gt {a b : Int} (h : b < a) : compare a b = .gt := by
  show compareOfLessAndEq a b = _
  unfold compareOfLessAndEq; rw [if_neg (by omega), if_neg (by omega)]
theorem cmp_eq {a b : Int} (h : a = b) : compare a b = .eq := by
  show compareOfLessAndEq a b = _
  unfold compareOfLessAndEq; rw [if_neg (by omega), if_pos h]

theorem sgn_mul (s : Bool) (m k : Nat) : sgn s (m * k) = sgn s m * (k : Int) := by
  cases s <;> simp [sgn, Int.neg_mul]

/-- The order of two finite data by one unit below both. -/
theorem order_numbers (s t : Bool) (m n a b : Nat) (c : Int) : (Datum.number s m (c + a)).order (.number t n (c + b)) = some (compare (sgn s (m * 2 ^ a)) (sgn t (n * 2 ^ b))) := by
  simp only [Datum.order, signed_eq]
  congr 1
  have e1 : (c + a - min (c + (a : Int)) (c + b)).toNat = a - min a b := by omega
  have e2 : (c + b - min (c + (a : Int)) (c + b)).toNat = b - min a b := by omega
  rw [e1, e2]
  have p := Nat.two_pow_pos (min a b)
  have f1 : m * 2 ^ a = m * 2 ^ (a - min a b) * 2 ^ min a b := by rw [Nat.mul_assoc, ← Nat.pow_add]; congr 2; omega
  have f2 : n * 2 ^ b = n * 2 ^ (b - min a b) * 2 ^ min a b := by rw [Nat.mul_assoc, ← Nat.pow_add]; congr 2; omega
  rw [f1, f2, sgn_mul s (m * 2 ^ (a - min a b)) (2 ^ min a b), sgn_mul t (n * 2 ^ (b - min a b)) (2 ^ min a b)]
  generalize sgn s _ = u
  generalize sgn t _ = v
  have hp : (0 : Int) < ((2 ^ min a b : Nat) : Int) := by omega
  exact cmp_congr ⟨fun h => Int.mul_lt_mul_of_pos_right h hp, fun h => Int.lt_of_mul_lt_mul_right h (Int.le_of_lt hp)⟩ ⟨fun h => by rw [h], fun h => Int.eq_of_mul_eq_mul_right (by omega) h⟩

theorem cmp_sgn (f : Format) (s t : Bool) (r q : Nat) : compare (sgn s (rv f r)) (sgn t (rv f q)) = compare (sgn s r) (sgn t q) := by
  have z := rv_zero f
  have l1 := rv_lt_iff f (r := r) (q := q)
  have l2 := rv_lt_iff f (r := q) (q := r)
  have l3 := rv_inj f (r := r) (q := q)
  have l4 := rv_inj f (r := r) (q := 0)
  have l5 := rv_inj f (r := q) (q := 0)
  rw [z] at l4 l5
  refine cmp_congr ?_ ?_ <;> cases s <;> cases t <;> simp only [sgn, if_true, if_false, Bool.false_eq_true] <;> omega

/-- THE ORDER OF WORDS THAT ARE NUMBERS OR INFINITIES IS THE ORDER OF THEIR KEYS. -/
theorem order_key (f : Format) (hb : f.binade ≤ f.infRung) {x y : Nat} (hx : rungAt f x ≤ f.infRung) (hy : rungAt f y ≤ f.infRung) : f.order x y = some (compare (keyOf f x) (keyOf f y)) := by
  have hb0 := binade_pos f
  unfold Format.order keyOf
  by_cases h1 : rungAt f x < f.infRung
  · obtain ⟨m, k, e1, v1, _⟩ := read_finite f h1
    by_cases h2 : rungAt f y < f.infRung
    · obtain ⟨n, j, e2, v2, _⟩ := read_finite f h2
      rw [e1, e2, order_numbers, v1, v2, cmp_sgn]
    · have h2' : rungAt f y = f.infRung := by omega
      rw [e1, read_inf f hb h2']
      simp only [Datum.order]
      congr 1
      cases negOf f y <;> cases negOf f x <;> simp only [sgn, if_true, if_false, Bool.false_eq_true] <;> first | rw [cmp_lt (by omega)] | rw [cmp_gt (by omega)]
  · have h1' : rungAt f x = f.infRung := by omega
    rw [read_inf f hb h1']
    by_cases h2 : rungAt f y < f.infRung
    · obtain ⟨n, j, e2, v2, _⟩ := read_finite f h2
      rw [e2]
      simp only [Datum.order]
      congr 1
      cases negOf f y <;> cases negOf f x <;> simp only [sgn, if_true, if_false, Bool.false_eq_true] <;> first | rw [cmp_lt (by omega)] | rw [cmp_gt (by omega)]
    · have h2' : rungAt f y = f.infRung := by omega
      rw [read_inf f hb h2', h1', h2']
      simp only [Datum.order]
      congr 1
      cases negOf f y <;> cases negOf f x <;> simp only [sgn, if_true, if_false, Bool.false_eq_true, Bool.toNat_true, Bool.toNat_false] <;> first | rw [cmp_lt (by omega)]; rfl | rw [cmp_gt (by omega)]; rfl | rw [cmp_eq (by omega)]; rfl

theorem order_nan_left (f : Format) {x y : Nat} (h : (f.read x).isNaN = true) : f.order x y = none := by
  unfold Format.order
  generalize f.read x = a at *
  cases a <;> simp [Datum.isNaN] at h
  rfl
theorem order_nan_right (f : Format) {x y : Nat} (h : (f.read y).isNaN = true) : f.order x y = none := by
  unfold Format.order
  generalize f.read y = a at *
  cases a <;> simp [Datum.isNaN] at h
  cases f.read x <;> rfl

theorem le_of_not_nan {k : FloatKind} {x : Nat} (h : nanB k x = false) : rungAt k.format x ≤ k.format.infRung := by
  rw [nanB_eq, decide_eq_false_iff_not] at h
  unfold rungAt; omega

/-- The order, whole. -/
theorem order_eq (k : FloatKind) (x y : Nat) : k.format.order x y = if nanB k x || nanB k y then none else some (compare (keyOf k.format x) (keyOf k.format y)) := by
  have hb := binade_le_infRung k.format (by cases k <;> decide)
  cases h1 : nanB k x with
  | true => rw [order_nan_left _ h1]; rfl
  | false =>
    cases h2 : nanB k y with
    | true => rw [order_nan_right _ h2]; rfl
    | false => rw [order_key _ hb (le_of_not_nan h1) (le_of_not_nan h2)]; rfl

theorem order_same {k : FloatKind} {x x' y y' : Nat} (hx : Same k x x') (hy : Same k y y') : k.format.order x y = k.format.order x' y' := by
  rcases hx with rfl | ⟨h1, h2⟩
  · rcases hy with rfl | ⟨g1, g2⟩
    · rfl
    · rw [order_nan_right _ g1, order_nan_right _ g2]
  · rw [order_nan_left _ h1, order_nan_left _ h2]

/-- A number against itself: equal, but for a not-a-number. -/
theorem order_self (k : FloatKind) (x : Nat) : k.format.order x x = if nanB k x then none else some .eq := by
  rw [order_eq, Bool.or_self, cmp_eq rfl]
end Go.Proofs.Ytcmmafkmfahijaa
