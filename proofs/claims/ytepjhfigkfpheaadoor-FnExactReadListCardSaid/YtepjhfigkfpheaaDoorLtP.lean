/- The text of a list of integers, in plain Lean. Conditions: none. -/
import Derived.Test.YtepjhfigkfpheaaDoorRdP
import Derived.Lib.Join
namespace Go.Proofs.YtepjhfigkfpheaaDoor
open Go.RowKit Go.Lib

/-- The first k integers lie in the range. -/
def inTo (L : Nat → Int) (k : Nat) : Prop := ∀ j, j < k → -1000000000000000 ≤ L j ∧ L j ≤ 1000000000000000
theorem inTo_zero (L : Nat → Int) : inTo L 0 := fun _ h => by omega
theorem inTo_succ {L : Nat → Int} {k : Nat} (h : inTo L k) (h0 : -1000000000000000 ≤ L k) (h1 : L k ≤ 1000000000000000) : inTo L (k + 1) := fun j hj => by
  by_cases e : j = k
  · subst e; exact ⟨h0, h1⟩
  · exact h j (by omega)
instance (L : Nat → Int) (k : Nat) : Decidable (inTo L k) := by unfold inTo; infer_instance
/-- The list has a text. -/
def okL (L : Nat → Int) (n : Nat) : Bool := decide (inTo L n) && decide (n ≤ 64)
theorem okL_bad {L : Nat → Int} {n k : Nat} (hk : k < n) (h : ¬ (-1000000000000000 ≤ L k ∧ L k ≤ 1000000000000000)) : okL L n = false := by
  unfold okL; rw [decide_eq_false (fun h' => h (h' k hk))]; rfl
theorem okL_good {L : Nat → Int} {n : Nat} (h : inTo L n) : okL L n = decide (n ≤ 64) := by
  unfold okL; rw [decide_eq_true h]; rfl
theorem okL_long {L : Nat → Int} {n : Nat} (h : 64 < n) : okL L n = false := by
  unfold okL; rw [decide_eq_false (show ¬ n ≤ 64 by omega), Bool.and_false]
theorem okL_yes {L : Nat → Int} {n : Nat} (h : okL L n = true) : inTo L n ∧ n ≤ 64 := by
  unfold okL at h; simpa using h
/-- The first k integers, with commas between. -/
def txt (L : Nat → Int) : Nat → List UInt8
  | 0 => []
  | 1 => itoa (L 0)
  | k + 2 => txt L (k + 1) ++ 44 :: itoa (L (k + 1))
theorem txt_one (L : Nat → Int) : txt L 1 = itoa (L 0) := rfl
theorem txt_step (L : Nat → Int) {k : Nat} (h : 1 ≤ k) : txt L (k + 1) = txt L k ++ 44 :: itoa (L k) := by
  obtain ⟨m, rfl⟩ : ∃ m, k = m + 1 := ⟨k - 1, by omega⟩
  rfl
theorem txt_len (L : Nat → Int) : ∀ k, inTo L k → (txt L k).length ≤ 18 * k
  | 0, _ => Nat.le_refl _
  | 1, h => by
    have := (itoa_len (L 0) (h 0 (by omega)).1 (h 0 (by omega)).2).2
    rw [txt_one]; omega
  | k + 2, h => by
    have h1 := txt_len L (k + 1) (fun j hj => h j (by omega))
    have h2 := (itoa_len (L (k + 1)) (h (k + 1) (by omega)).1 (h (k + 1) (by omega)).2).2
    rw [txt_step L (by omega)]
    simp only [List.length_append, List.length_cons]
    omega
theorem joinTail_snoc (sep : List UInt8) (r : List (List UInt8)) (y : List UInt8) : joinTail sep (r ++ [y]) = joinTail sep r ++ (sep ++ y) := by simp [joinTail]
theorem join_snoc (xs : List (List UInt8)) (h : xs ≠ []) (y sep : List UInt8) : join (xs ++ [y]) sep = join xs sep ++ (sep ++ y) := by
  cases xs with
  | nil => exact absurd rfl h
  | cons x r => rw [List.cons_append, join_cons, join_cons, joinTail_snoc, List.append_assoc]
theorem join_txt (L : Nat → Int) : ∀ k, join ((List.range k).map fun j => itoa (L j)) [44] = txt L k
  | 0 => rfl
  | 1 => by rw [txt_one]; simp [List.range_succ, join_one]
  | k + 2 => by
    rw [List.range_succ, List.map_append, List.map_singleton, join_snoc _ (by simp), join_txt L (k + 1), txt_step L (k := k + 1) (by omega)]
    simp
/-- What both answer. -/
def ltS (L : Nat → Int) (n : Nat) : ByteArray := if okL L n then (if n = 0 then ⟨#[110, 111, 110, 101]⟩ else ⟨(txt L n).toArray⟩) else ⟨#[]⟩
end Go.Proofs.YtepjhfigkfpheaaDoor
