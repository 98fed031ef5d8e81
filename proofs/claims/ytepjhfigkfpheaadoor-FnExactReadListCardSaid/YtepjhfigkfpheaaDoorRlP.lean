/- The integers of a text with commas, in plain Lean: the parts between commas, as the reference and as the library cut them. Conditions: none. -/
import Derived.Test.YtepjhfigkfpheaaDoorRdP
import Derived.Lib.SplitLaws
namespace Go.Proofs.YtepjhfigkfpheaaDoor
open Go.RowKit Go.Lib

/-- The parts between commas. -/
def cut : List UInt8 → List (List UInt8)
  | [] => [[]]
  | c :: r => if c = 44 then [] :: cut r else [c :: (cut r).headD []] ++ (cut r).tail
theorem cut_cons (l : List UInt8) : cut l = (cut l).headD [] :: (cut l).tail := by
  cases l with
  | nil => rfl
  | cons c r => unfold cut; split <;> rfl
theorem cut_pos (l : List UInt8) : 1 ≤ (cut l).length := by rw [cut_cons]; simp
theorem cut_len : ∀ l : List UInt8, (cut l).length ≤ l.length + 1
  | [] => Nat.le_refl _
  | c :: r => by
    have h := cut_len r
    have hp := cut_pos r
    unfold cut
    split
    · simp; exact h
    · simp; omega
theorem cut_miss : ∀ l : List UInt8, (∀ c ∈ l, c ≠ 44) → cut l = [l]
  | [], _ => rfl
  | c :: r, h => by
    have ih := cut_miss r (fun x hx => h x (by simp [hx]))
    unfold cut
    rw [if_neg (h c (by simp)), ih]
    rfl
theorem cut_hit (b : List UInt8) : ∀ a : List UInt8, (∀ c ∈ a, c ≠ 44) → cut (a ++ 44 :: b) = a :: cut b
  | [], _ => by
    show (if (44 : UInt8) = 44 then [] :: cut b else _) = _
    rw [if_pos rfl]
  | c :: a, h => by
    have ih := cut_hit b a (fun x hx => h x (by simp [hx]))
    show (if c = 44 then [] :: cut (a ++ 44 :: b) else [c :: (cut (a ++ 44 :: b)).headD []] ++ (cut (a ++ 44 :: b)).tail) = _
    rw [if_neg (h c (by simp)), ih]
    rfl
theorem part_len : ∀ (l p : List UInt8), p ∈ cut l → p.length ≤ l.length
  | [], p, h => by simp [cut] at h; simp [h]
  | c :: r, p, h => by
    have ih := part_len r
    have hc := cut_cons r
    unfold cut at h
    split at h
    · rcases List.mem_cons.1 h with rfl | h
      · simp
      · have := ih p h; simp; omega
    · rcases List.mem_append.1 h with h | h
      · simp only [List.mem_singleton] at h
        have := ih ((cut r).headD []) (by rw [hc]; simp)
        subst h; simp only [List.length_cons]; omega
      · have := ih p (by rw [hc]; exact List.mem_cons_of_mem _ h)
        simp only [List.length_cons]; omega
theorem index_eq (l : List UInt8) : index (44 :: l) [44] = 0 := by simp [index, List.isPrefixOf]
theorem index_ne (c : UInt8) (l : List UInt8) (h : c ≠ 44) : index (c :: l) [44] = if index l [44] == -1 then -1 else index l [44] + 1 := by
  have hp : ([44] : List UInt8).isPrefixOf (c :: l) = false := by simp [List.isPrefixOf, Ne.symm h]
  rw [index, hp]; simp
/-- The library cuts so too. -/
theorem split_cut : ∀ (l : List UInt8), splitK [44] 0 (count l [44]) l = cut l
  | [] => by rw [count_miss (by simp [index])]; rfl
  | c :: l => by
    have ih := split_cut l
    by_cases h : c = 44
    · subst h
      rw [count_cons_eq, Nat.add_comm]
      show (if index (44 :: l) [44] == -1 then _ else _) = _
      rw [index_eq, if_neg (by decide)]
      show _ = (if (44 : UInt8) = 44 then [] :: cut l else _)
      rw [if_pos rfl, ← ih]
      rfl
    · rw [count_cons_ne _ _ _ h]
      show _ = (if c = 44 then [] :: cut l else [c :: (cut l).headD []] ++ (cut l).tail)
      rw [if_neg h]
      cases hk : count l [44] with
      | zero =>
        rw [hk] at ih
        rw [← ih]
        rfl
      | succ k =>
        rw [hk] at ih
        by_cases hm : index l [44] = -1
        · rw [count_miss hm] at hk; cases hk
        · have hge := index_ge l [44]
          obtain ⟨j, hj⟩ : ∃ j : Nat, index l [44] = j := ⟨(index l [44]).toNat, by omega⟩
          have e1 : splitK [44] 0 (k + 1) l = l.take j :: splitK [44] 0 k (l.drop (j + 1)) := by
            show (if index l [44] == -1 then _ else _) = _
            rw [if_neg (by simpa using hm), hj]
            rfl
          have e2 : splitK [44] 0 (k + 1) (c :: l) = (c :: l).take (j + 1) :: splitK [44] 0 k ((c :: l).drop (j + 2)) := by
            show (if index (c :: l) [44] == -1 then _ else _) = _
            have hx : index (c :: l) [44] = ((j + 1 : Nat) : Int) := by rw [index_ne c l h, if_neg (by simpa using hm), hj]; omega
            rw [hx, if_neg (by simp; omega)]
            rfl
          rw [e2, ← ih, e1]
          rfl
/-- What both answer: the integers, if each part is one and they are few. -/
def nums (l : List UInt8) : Option (List Int) :=
  if l = [110, 111, 110, 101] then some [] else if (cut l).length ≤ 64 ∧ (cut l).all (fun p => (rd p).2) = true then some ((cut l).map fun p => (rd p).1) else none
theorem nums_none_text : nums [110, 111, 110, 101] = some [] := rfl
theorem nums_long {l : List UInt8} (h0 : ¬ l = [110, 111, 110, 101]) (h : 64 < (cut l).length) : nums l = none := by
  unfold nums; rw [if_neg h0, if_neg (by rintro ⟨h1, _⟩; omega)]
theorem nums_bad {l p : List UInt8} {k : Nat} (h0 : ¬ l = [110, 111, 110, 101]) (hp : (cut l)[k]? = some p) (h : (rd p).2 = false) : nums l = none := by
  unfold nums
  rw [if_neg h0, if_neg]
  rintro ⟨_, h1⟩
  have := List.all_eq_true.1 h1 p (List.mem_of_getElem? hp)
  rw [h] at this; cases this
/-- The first k parts are integers. -/
def goodTo (l : List UInt8) (k : Nat) : Prop := ∀ j p, j < k → (cut l)[j]? = some p → (rd p).2 = true
theorem goodTo_zero (l : List UInt8) : goodTo l 0 := fun _ _ h => by omega
theorem goodTo_succ {l p : List UInt8} {k : Nat} (h : goodTo l k) (hp : (cut l)[k]? = some p) (hr : (rd p).2 = true) : goodTo l (k + 1) := fun j q hj hq => by
  by_cases e : j = k
  · subst e; rw [hp] at hq; cases hq; exact hr
  · exact h j q (by omega) hq
theorem nums_good {l : List UInt8} (h0 : ¬ l = [110, 111, 110, 101]) (h : (cut l).length ≤ 64) (hg : goodTo l (cut l).length) : nums l = some ((cut l).map fun p => (rd p).1) := by
  unfold nums
  rw [if_neg h0, if_pos]
  refine ⟨h, List.all_eq_true.2 fun p hp => ?_⟩
  obtain ⟨j, hj, rfl⟩ := List.mem_iff_getElem.1 hp
  exact hg j _ hj (List.getElem?_eq_getElem hj)
theorem nums_len {l : List UInt8} {zs : List Int} (h : nums l = some zs) : zs.length ≤ 64 := by
  rw [nums] at h
  by_cases h0 : l = [110, 111, 110, 101]
  · rw [if_pos h0] at h; cases h; exact Nat.zero_le _
  · rw [if_neg h0] at h
    by_cases h2 : (cut l).length ≤ 64 ∧ (cut l).all (fun p => (rd p).2) = true
    · rw [if_pos h2] at h; cases h; simpa using h2.1
    · rw [if_neg h2] at h; cases h
/-- The first k integers as cells. -/
def numL (l : List UInt8) (k : Nat) : List Value := ((cut l).take k).map fun p => .int .i64 (rd p).1
theorem numL_succ {l p : List UInt8} {k : Nat} (hp : (cut l)[k]? = some p) : numL l (k + 1) = numL l k ++ [.int .i64 (rd p).1] := by
  obtain ⟨hk, rfl⟩ := List.getElem?_eq_some_iff.1 hp
  unfold numL
  rw [List.take_succ_eq_append_getElem hk, List.map_append]
  rfl
theorem numL_length {l : List UInt8} {k : Nat} (h : k ≤ (cut l).length) : (numL l k).length = k := by unfold numL; rw [List.length_map, List.length_take]; omega
theorem numL_all (l : List UInt8) : numL l (cut l).length = ((cut l).map fun p => (rd p).1).map (Value.int .i64) := by unfold numL; rw [List.take_length, List.map_map]; rfl
end Go.Proofs.YtepjhfigkfpheaaDoor
