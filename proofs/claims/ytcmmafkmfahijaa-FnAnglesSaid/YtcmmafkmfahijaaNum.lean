/- Plain facts on rounding: what the nearest word is, that a number which the format has is written exactly, bounds of a rounded number, and the order of numbers by their words. Conditions: as each fact says. -/
import Derived.Test.YtcmmafkmfahijaaFloat
namespace Go.Proofs.Ytcmmafkmfahijaa
open Ieee

theorem cut_eq (neg : Bool) (n drop : Nat) : Toward.even.cut neg n drop =
    n / 2 ^ min drop (n.log2 + 2) + (decide (2 ^ min drop (n.log2 + 2) < 2 * (n % 2 ^ min drop (n.log2 + 2))) || (2 ^ min drop (n.log2 + 2) == 2 * (n % 2 ^ min drop (n.log2 + 2)) && n / 2 ^ min drop (n.log2 + 2) % 2 == 1)).toNat := by
  simp only [Toward.cut, Nat.one_shiftLeft]

/-- A count that is at most N units is cut to at most N. -/
theorem cut_le {neg : Bool} {n drop N : Nat} (h : n ≤ N * 2 ^ drop) : Toward.even.cut neg n drop ≤ N := by
  rw [cut_eq]
  by_cases hd : drop ≤ n.log2 + 2
  · rw [Nat.min_eq_left hd]
    generalize hg : 2 ^ drop = g at *
    have g0 : 0 < g := by rw [← hg]; exact Nat.two_pow_pos _
    have e := Nat.div_add_mod n g
    have r := Nat.mod_lt n g0
    have q : n / g ≤ N := by
      have := Nat.div_le_div_right (c := g) h
      rwa [Nat.mul_div_cancel _ g0] at this
    by_cases hq : n / g = N
    · have : n % g = 0 := by
        rw [hq, Nat.mul_comm] at e; omega
      have e0 : (g == 2 * 0) = false := by rw [beq_eq_false_iff_ne]; omega
      have e1 : decide (g < 2 * 0) = false := by simp
      rw [this, e0, e1, hq]; simp
    · have : (decide (g < 2 * (n % g)) || (g == 2 * (n % g) && n / g % 2 == 1)).toNat ≤ 1 := Bool.toNat_le _
      omega
  · rw [Nat.min_eq_right (by omega)]
    have l : n < 2 ^ (n.log2 + 1) := Nat.lt_log2_self
    have p : 2 ^ (n.log2 + 2) = 2 * 2 ^ (n.log2 + 1) := by rw [Nat.pow_succ, Nat.mul_comm]
    generalize 2 ^ (n.log2 + 2) = g at *
    generalize 2 ^ (n.log2 + 1) = u at *
    rw [Nat.div_eq_of_lt (by omega), Nat.mod_eq_of_lt (by omega)]
    have h1 : decide (g < 2 * n) = false := by simp; omega
    have h2 : (g == 2 * n) = false := by simp; omega
    rw [h1, h2]; simp

theorem le_cut {neg : Bool} {n drop N : Nat} (h : N * 2 ^ drop ≤ n) : N ≤ Toward.even.cut neg n drop := by
  rw [cut_eq]
  by_cases hd : drop ≤ n.log2 + 2
  · rw [Nat.min_eq_left hd]
    have : N ≤ n / 2 ^ drop := (Nat.le_div_iff_mul_le (Nat.two_pow_pos _)).2 h
    omega
  · have l : n < 2 ^ (n.log2 + 1) := Nat.lt_log2_self
    have p : 2 ^ (n.log2 + 1) ≤ 2 ^ drop := Nat.pow_le_pow_right (by omega) (by omega)
    rcases Nat.eq_zero_or_pos N with rfl | hN
    · exact Nat.zero_le _
    · have h1 : 1 * 2 ^ drop ≤ N * 2 ^ drop := Nat.mul_le_mul_right _ hN
      have h2 := Nat.le_trans h1 h
      rw [Nat.one_mul] at h2
      omega

theorem cut_exact {neg : Bool} {n drop N : Nat} (h : n = N * 2 ^ drop) : Toward.even.cut neg n drop = N :=
  Nat.le_antisymm (cut_le (Nat.le_of_eq h)) (le_cut (Nat.le_of_eq h.symm))

theorem log2_mul_pow {n : Nat} (h : n ≠ 0) (d : Nat) : (n * 2 ^ d).log2 = n.log2 + d := by
  induction d with
  | zero => simp
  | succ d ih =>
    have : n * 2 ^ (d + 1) = 2 * (n * 2 ^ d) := by rw [Nat.pow_succ]; rw [← Nat.mul_assoc, Nat.mul_comm]
    rw [this, Nat.log2_two_mul (by have := Nat.two_pow_pos d; exact Nat.mul_ne_zero h (by omega)), ih]; rfl

/-! ### The rung of the nearest word -/

/-- The place of the last digit that is kept. -/
def lastOf (f : Format) (m : Nat) (p : Int) : Int := max (p + m.log2 - f.fractionBits) f.leastPlace
def keptOf (f : Format) (m : Nat) (p : Int) : Nat := Toward.even.cut false (m <<< (p - lastOf f m p).toNat) (lastOf f m p - p).toNat
def rungOf (f : Format) (m : Nat) (p : Int) : Nat := if m = 0 then 0 else min ((lastOf f m p - f.leastPlace).toNat * f.binade + keptOf f m p) f.infRung

theorem cut_sign (s t : Bool) (n d : Nat) : Toward.even.cut s n d = Toward.even.cut t n d := by rw [cut_eq, cut_eq]

theorem nearest_eq (f : Format) (s : Bool) (m : Nat) (p : Int) : f.nearest s m p = f.word s (rungOf f m p) := by
  unfold Format.nearest rungOf
  split
  · rfl
  · dsimp only
    rw [cut_sign s false]
    rfl

/-- A number that the format has. -/
theorem rung_exact (f : Format) {m sig e : Nat} {p : Int} (h0 : 0 < sig) (hs : sig < 2 * f.binade) (he : e = 0 ∨ f.binade ≤ sig) (hf : e * f.binade + sig ≤ f.infRung)
    (hv : m * 2 ^ (p - (f.leastPlace + e)).toNat = sig * 2 ^ ((f.leastPlace + e) - p).toNat) : rungOf f m p = e * f.binade + sig := by
  have hm : m ≠ 0 := by
    rintro rfl
    rw [Nat.zero_mul] at hv
    have := Nat.mul_pos h0 (Nat.two_pow_pos ((f.leastPlace + e) - p).toNat)
    omega
  have hl : (m.log2 : Int) + p = sig.log2 + f.leastPlace + e := by
    have := congrArg Nat.log2 hv
    rw [log2_mul_pow hm, log2_mul_pow (by omega)] at this
    omega
  have hb : f.binade = 2 ^ f.fractionBits := rfl
  have hs1 : sig.log2 < f.fractionBits + 1 := (Nat.log2_lt (by omega)).2 (by rw [Nat.pow_succ]; omega)
  have hlast : lastOf f m p = f.leastPlace + e := by
    unfold lastOf
    rcases he with rfl | he
    · omega
    · have : f.fractionBits ≤ sig.log2 := (Nat.le_log2 (by omega)).2 he
      omega
  have hk : keptOf f m p = sig := by
    unfold keptOf
    rw [hlast, Nat.shiftLeft_eq]
    exact cut_exact hv
  unfold rungOf
  rw [if_neg hm, hk, hlast]
  have : (f.leastPlace + (e : Int) - f.leastPlace).toNat = e := by omega
  rw [this]
  exact Nat.min_eq_left hf

/-- A rounded number is at most two binades above the last digit's. -/
theorem kept_le (f : Format) {m : Nat} {p : Int} : keptOf f m p ≤ 2 * f.binade := by
  unfold keptOf
  refine cut_le ?_
  rw [Nat.shiftLeft_eq]
  have l : m < 2 ^ (m.log2 + 1) := Nat.lt_log2_self
  have h1 : p + m.log2 - f.fractionBits ≤ lastOf f m p := by unfold lastOf; omega
  generalize lastOf f m p = q at *
  have hb : 2 * f.binade = 2 ^ (f.fractionBits + 1) := by rw [Nat.pow_succ, Nat.mul_comm]; rfl
  rw [hb, ← Nat.pow_add]
  refine Nat.le_trans (Nat.mul_le_mul_right _ (Nat.le_of_lt l)) ?_
  rw [← Nat.pow_add]
  exact Nat.pow_le_pow_right (by omega) (by omega)

/-- What is kept of a normal number fills its binade. -/
theorem le_kept (f : Format) {m : Nat} {p : Int} (hm : m ≠ 0) (h : f.leastPlace ≤ p + m.log2 - f.fractionBits) : f.binade ≤ keptOf f m p := by
  unfold keptOf
  refine le_cut ?_
  rw [Nat.shiftLeft_eq]
  have l : 2 ^ m.log2 ≤ m := Nat.log2_self_le hm
  have h1 : lastOf f m p = p + m.log2 - f.fractionBits := by unfold lastOf; omega
  rw [h1]
  refine Nat.le_trans ?_ (Nat.mul_le_mul_right _ l)
  show 2 ^ f.fractionBits * _ ≤ _
  rw [← Nat.pow_add, ← Nat.pow_add]
  exact Nat.pow_le_pow_right (by omega) (by omega)

/-- A number of at most 2 to the e-th (above the subnormal ones) is rounded to at most that. -/
theorem rung_le (f : Format) {m : Nat} {p : Int} {k : Nat} (hk : 1 ≤ k)
    (h : m * 2 ^ (p - (f.leastPlace + (f.fractionBits + k - 1 : Nat))).toNat ≤ 2 ^ ((f.leastPlace + (f.fractionBits + k - 1 : Nat)) - p).toNat) : rungOf f m p ≤ k * f.binade := by
  unfold rungOf
  split
  · omega
  rename_i hm
  refine Nat.le_trans (Nat.min_le_left _ _) ?_
  have l : 2 ^ m.log2 ≤ m := Nat.log2_self_le hm
  have e1 : p + m.log2 ≤ f.leastPlace + (f.fractionBits + k - 1 : Nat) := by
    have := Nat.le_trans (Nat.mul_le_mul_right _ l) h
    rw [← Nat.pow_add] at this
    have := (Nat.pow_le_pow_iff_right (by omega)).1 this
    omega
  by_cases hn : f.leastPlace ≤ p + m.log2 - f.fractionBits
  · have h1 : lastOf f m p = p + m.log2 - f.fractionBits := by unfold lastOf; omega
    have hl : (lastOf f m p - f.leastPlace).toNat ≤ k - 1 := by omega
    by_cases hq : (lastOf f m p - f.leastPlace).toNat = k - 1
    · have hb : keptOf f m p ≤ f.binade := by
        unfold keptOf
        refine cut_le ?_
        rw [Nat.shiftLeft_eq]
        show _ ≤ 2 ^ f.fractionBits * _
        rw [← Nat.pow_add]
        have e2 : lastOf f m p = f.leastPlace + (k - 1 : Nat) := by omega
        rw [e2]
        by_cases hp : p ≤ f.leastPlace + (f.fractionBits + k - 1 : Nat)
        · have : (p - (f.leastPlace + (f.fractionBits + k - 1 : Nat))).toNat = 0 := by omega
          rw [this, Nat.pow_zero, Nat.mul_one] at h
          refine Nat.le_trans (Nat.mul_le_mul_right _ h) ?_
          rw [← Nat.pow_add]
          exact Nat.pow_le_pow_right (by omega) (by omega)
        · omega
      rw [hq]
      have : k * f.binade = (k - 1) * f.binade + f.binade := by
        obtain ⟨j, rfl⟩ : ∃ j, k = j + 1 := ⟨k - 1, by omega⟩
        rw [Nat.add_sub_cancel, Nat.succ_mul]
      omega
    · have h2 : (lastOf f m p - f.leastPlace).toNat + 2 ≤ k := by omega
      have h3 := kept_le f (m := m) (p := p)
      have h4 := Nat.mul_le_mul_right f.binade h2
      rw [Nat.add_mul] at h4
      omega
  · have h1 : lastOf f m p = f.leastPlace := by unfold lastOf; omega
    rw [h1]
    have : (f.leastPlace - f.leastPlace).toNat = 0 := by omega
    rw [this]
    have hb : keptOf f m p ≤ f.binade := by
      unfold keptOf
      refine cut_le ?_
      rw [h1, Nat.shiftLeft_eq]
      have l2 : m < 2 ^ (m.log2 + 1) := Nat.lt_log2_self
      refine Nat.le_trans (Nat.mul_le_mul_right _ (Nat.le_of_lt l2)) ?_
      show _ ≤ 2 ^ f.fractionBits * _
      rw [← Nat.pow_add, ← Nat.pow_add]
      exact Nat.pow_le_pow_right (by omega) (by omega)
    have := Nat.mul_le_mul_right f.binade hk
    omega

/-- A number of at least 2 to the e-th is rounded to at least that. -/
theorem le_rung (f : Format) {m : Nat} {p : Int} {k : Nat} (hm : m ≠ 0) (hk : 1 ≤ k) (hi : k * f.binade ≤ f.infRung) (h : f.leastPlace + (f.fractionBits + k - 1 : Nat) ≤ p + m.log2) : k * f.binade ≤ rungOf f m p := by
  unfold rungOf
  rw [if_neg hm]
  refine Nat.le_min.2 ⟨?_, hi⟩
  have h1 : lastOf f m p = p + m.log2 - f.fractionBits := by unfold lastOf; omega
  have h2 := le_kept f (m := m) (p := p) hm (by omega)
  have h3 : k - 1 ≤ (lastOf f m p - f.leastPlace).toNat := by omega
  have h4 := Nat.mul_le_mul_right f.binade h3
  have : k * f.binade = (k - 1) * f.binade + f.binade := by
    obtain ⟨j, rfl⟩ : ∃ j, k = j + 1 := ⟨k - 1, by omega⟩
    rw [Nat.add_sub_cancel, Nat.succ_mul]
  omega
end Go.Proofs.Ytcmmafkmfahijaa
