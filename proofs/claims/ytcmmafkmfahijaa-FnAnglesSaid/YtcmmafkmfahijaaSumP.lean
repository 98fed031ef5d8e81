/- Sums, sums of halves and products of small integers as 32-bit and 64-bit numbers, in plain Lean. Conditions: as each says. -/
import Derived.Test.YtcmmafkmfahijaaInt
import Derived.Test.YtcmmafkmfahijaaList
namespace Go.Proofs.Ytcmmafkmfahijaa
open Ieee Go.RowKit

theorem ad_K {a b : Int} (ha : a.natAbs < 16777216) (hb : b.natAbs < 16777216) (hab : (a + b).natAbs < 16777216) : ad (K single a) (K single b) = K single (a + b) :=
  fop_some (add_K fit32 (by rw [single_binade]; omega) (by rw [single_binade]; omega) (by rw [single_binade]; omega))
theorem mu_K {a : Int} (ha : a.natAbs < 16777216) (hab : (a * a).natAbs < 16777216) : mu (K single a) (K single a) = K single (a * a) :=
  fop_some (mul_K fit32 (by rw [single_binade]; omega) (by rw [single_binade]; omega))
/-- The sum of the integers from o on. -/
def zsum (z : Nat → Int) (o : Nat) : Nat → Int
  | 0 => 0
  | k + 1 => zsum z o k + z (o + k)
theorem zsum_succ (z : Nat → Int) (o k : Nat) : zsum z o (k + 1) = zsum z o k + z (o + k) := rfl
theorem zsum_bound {z : Nat → Int} {B : Nat} (h : ∀ i, (z i).natAbs ≤ B) (o : Nat) : ∀ k, (zsum z o k).natAbs ≤ B * k
  | 0 => by simp [zsum]
  | k + 1 => by
    have h1 := zsum_bound h o k
    have h2 := h (o + k)
    rw [Nat.mul_succ]
    unfold zsum
    omega
theorem zsum_add (z : Nat → Int) (o a : Nat) : ∀ b, zsum z o (a + b) = zsum z o a + zsum z (o + a) b
  | 0 => by simp [zsum]
  | b + 1 => by
    show zsum z o (a + b) + z (o + (a + b)) = zsum z o a + (zsum z (o + a) b + z (o + a + b))
    rw [zsum_add z o a b, Nat.add_assoc o a b]; omega
/-- The integers' words. -/
def wordsOf (z : Nat → Int) (i : Nat) : Nat := K single (z i)
theorem sumF_K {z : Nat → Int} (h : ∀ i, (z i).natAbs ≤ 100) : ∀ k, k ≤ 1000 → sumF (wordsOf z) k = K single (zsum z 0 k)
  | 0, _ => (K_zero single).symm
  | k + 1, hk => by
    have h1 := zsum_bound h 0 k
    have h2 := zsum_bound h 0 (k + 1)
    have h3 := h k
    show ad (sumF (wordsOf z) k) (wordsOf z k) = _
    rw [sumF_K h k (by omega)]
    rw [zsum_succ, Nat.zero_add] at h2 ⊢
    exact ad_K (a := zsum z 0 k) (b := z k) (by omega) (by omega) (by omega)
theorem pairF_K {z : Nat → Int} (h : ∀ i, (z i).natAbs ≤ 100) : ∀ f o n, n ≤ f → n ≤ 1000 → pairF (wordsOf z) f o n = K single (zsum z o n)
  | 0, o, n, hn, _ => by
    obtain rfl : n = 0 := by omega
    exact (K_zero single).symm
  | f + 1, o, n, hn, hk => by
    unfold pairF
    by_cases h0 : n = 0
    · subst h0; rw [if_pos rfl]; exact (K_zero single).symm
    · by_cases h1 : n = 1
      · subst h1
        rw [if_neg h0, if_pos rfl]
        show K single (z o) = K single (0 + z (o + 0))
        rw [Int.zero_add, Nat.add_zero]
      · rw [if_neg h0, if_neg h1, pairF_K h f o _ (by omega) (by omega), pairF_K h f _ _ (by omega) (by omega)]
        have b1 := zsum_bound h o ((n + 1) / 2)
        have b2 := zsum_bound h (o + (n + 1) / 2) (n - (n + 1) / 2)
        have e := zsum_add z o ((n + 1) / 2) (n - (n + 1) / 2)
        rw [show (n + 1) / 2 + (n - (n + 1) / 2) = n by omega] at e
        have b3 := zsum_bound h o n
        rw [e] at b3 ⊢
        exact ad_K (a := zsum z o ((n + 1) / 2)) (b := zsum z (o + (n + 1) / 2) (n - (n + 1) / 2)) (by omega) (by omega) (by omega)
theorem pairF_fuel (L : Nat → Nat) : ∀ f g o n, n ≤ f → n ≤ g → pairF L f o n = pairF L g o n
  | 0, 0, _, _, _, _ => rfl
  | 0, g + 1, o, n, h1, h2 => by
    obtain rfl : n = 0 := by omega
    rw [pairF, pairF, if_pos rfl]
  | f + 1, 0, o, n, h1, h2 => by
    obtain rfl : n = 0 := by omega
    rw [pairF, pairF, if_pos rfl]
  | f + 1, g + 1, o, n, h1, h2 => by
    unfold pairF
    by_cases h0 : n = 0
    · rw [if_pos h0, if_pos h0]
    · by_cases h3 : n = 1
      · rw [if_neg h0, if_pos h3, if_neg h0, if_pos h3]
      · rw [if_neg h0, if_neg h3, if_neg h0, if_neg h3, pairF_fuel L f g _ _ (by omega) (by omega), pairF_fuel L f g _ _ (by omega) (by omega)]
/-- A list of more than one number: both halves' sums. -/
theorem pairF_halves (L : Nat → Nat) {n : Nat} (h : 1 < n) : pairF L n 0 n = ad (pairF L ((n + 1) / 2) 0 ((n + 1) / 2)) (pairF L (n - (n + 1) / 2) ((n + 1) / 2) (n - (n + 1) / 2)) := by
  obtain ⟨m, rfl⟩ : ∃ m, n = m + 1 := ⟨n - 1, by omega⟩
  rw [pairF, if_neg (by omega), if_neg (by omega), Nat.zero_add]
  rw [pairF_fuel L m _ 0 _ (by omega) (Nat.le_refl _), pairF_fuel L m _ ((m + 1 + 1) / 2) _ (by omega) (Nat.le_refl _)]
theorem dotF_K {z : Nat → Int} (h : ∀ i, (z i).natAbs ≤ 100) : ∀ k, k ≤ 1000 → dotF (wordsOf z) (wordsOf z) k = K single (zsum (fun i => z i * z i) 0 k)
  | 0, _ => (K_zero single).symm
  | k + 1, hk => by
    have hq : ∀ i, ((fun i => z i * z i) i).natAbs ≤ 10000 := fun i => by
      show (z i * z i).natAbs ≤ 10000
      rw [Int.natAbs_mul]
      exact Nat.mul_le_mul (h i) (h i)
    have h1 := zsum_bound hq 0 k
    have h2 := zsum_bound hq 0 (k + 1)
    have h3 := h k
    have h4 : (z k * z k).natAbs ≤ 10000 := hq k
    show ad (dotF (wordsOf z) (wordsOf z) k) (mu (wordsOf z k) (wordsOf z k)) = _
    rw [dotF_K h k (by omega)]
    unfold wordsOf
    rw [mu_K (a := z k) (by omega) (by omega)]
    rw [zsum_succ, Nat.zero_add] at h2 ⊢
    exact ad_K (a := zsum (fun i => z i * z i) 0 k) (b := z k * z k) (by omega) (by omega) (by omega)
/-- The sum of products in 64 bits. -/
def dotD (L M : Nat → Nat) : Nat → Nat
  | 0 => 0
  | k + 1 => fop .add .f64 (dotD L M k) (fop .mul .f64 (cv (L k)) (cv (M k)))
theorem dotD_K {z : Nat → Int} (h : ∀ i, (z i).natAbs ≤ 100) : ∀ k, k ≤ 1000 → dotD (wordsOf z) (wordsOf z) k = K double (zsum (fun i => z i * z i) 0 k)
  | 0, _ => (K_zero double).symm
  | k + 1, hk => by
    have hq : ∀ i, ((fun i => z i * z i) i).natAbs ≤ 10000 := fun i => by
      show (z i * z i).natAbs ≤ 10000
      rw [Int.natAbs_mul]
      exact Nat.mul_le_mul (h i) (h i)
    have h1 := zsum_bound hq 0 k
    have h2 := zsum_bound hq 0 (k + 1)
    have h3 := h k
    have h4 : (z k * z k).natAbs ≤ 10000 := hq k
    show fop .add .f64 (dotD (wordsOf z) (wordsOf z) k) (fop .mul .f64 (cv (wordsOf z k)) (cv (wordsOf z k))) = _
    rw [dotD_K h k (by omega)]
    unfold wordsOf
    have hm : fop .mul .f64 (K double (z k)) (K double (z k)) = K double (z k * z k) := fop_some (mul_K fit64 (a := z k) (by rw [double_binade]; omega) (by rw [double_binade]; omega))
    rw [cv_K (by omega), hm]
    rw [zsum_succ, Nat.zero_add] at h2 ⊢
    exact fop_some (add_K fit64 (a := zsum (fun i => z i * z i) 0 k) (b := z k * z k) (by rw [double_binade]; omega) (by rw [double_binade]; omega) (by rw [double_binade]; omega))
/-- Products with 1 leave the sum. -/
theorem dot_ones {L : Nat → Nat} (hL : ∀ i, L i < 4294967296) : ∀ k, Same .f32 (dotF L (fun _ => 1065353216) k) (sumF L k)
  | 0 => Same.refl _ _
  | k + 1 => fop_same .add (dot_ones hL k) (mul_one_same (hL k))
end Go.Proofs.Ytcmmafkmfahijaa
