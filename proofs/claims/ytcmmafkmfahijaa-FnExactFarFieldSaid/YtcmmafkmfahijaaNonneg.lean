/- Numbers that are not negative and no not-a-numbers: sums of squares, their roots, and 1 divided by such. Conditions: as each says. -/
import Derived.Test.YtcmmafkmfahijaaRoot
namespace Go.Proofs.Ytcmmafkmfahijaa
open Ieee

theorem nearest_le (f : Format) (m : Nat) (p : Int) : f.nearest false m p ≤ f.infRung := by
  rw [nearest_eq]
  show rungOf f m p ≤ f.infRung
  unfold rungOf
  split
  · exact Nat.zero_le _
  · exact Nat.min_le_right _ _
/-- What a word that is not negative stands for. -/
theorem read_le (f : Format) (hs : f.infRung < f.signWeight) (hb : f.binade ≤ f.infRung) {x : Nat} (h : x ≤ f.infRung) : (∃ m k : Nat, f.read x = .number false m (f.leastPlace + k) ∧ (m = 0 → x = 0) ∧ x < f.infRung) ∨ (f.read x = .infinity false ∧ x = f.infRung) := by
  have hr : rungAt f x = x := Nat.mod_eq_of_lt (by omega)
  have hn : negOf f x = false := by unfold negOf; rw [Nat.div_eq_of_lt (by omega)]; rfl
  rcases Nat.lt_or_eq_of_le h with h1 | h1
  · obtain ⟨m, k, e, v, _, _, _⟩ := read_finite f (x := x) (by rw [hr]; exact h1)
    rw [hn] at e
    refine .inl ⟨m, k, e, fun h0 => ?_, h1⟩
    subst h0
    rw [Nat.zero_mul, hr] at v
    have z := rv_zero f
    exact (rv_inj f).1 (v.symm.trans z.symm)
  · have e := read_inf f hb (x := x) (by rw [hr]; exact h1)
    rw [hn] at e
    exact .inr ⟨e, h1⟩
theorem r32 {x : Nat} (h : x ≤ 2139095040) : (∃ m k : Nat, single.read x = .number false m (single.leastPlace + k) ∧ (m = 0 → x = 0) ∧ x < 2139095040) ∨ (single.read x = .infinity false ∧ x = 2139095040) := read_le single (by decide) (by decide) h
theorem le_nan {x : Nat} (h : x ≤ 2139095040) : nanB .f32 x = false := by rw [nan32, decide_eq_false_iff_not]; omega
theorem sum_sign (A B : Nat) : (if (A : Int) + (B : Int) = 0 then (false && false) else decide ((A : Int) + (B : Int) < 0)) = false := by
  split
  · rfl
  · exact decide_eq_false (by omega)
theorem square_le {x : Nat} (h : finB x = true) : mu x x ≤ 2139095040 := by
  have hr : rungAt single x < single.infRung := of_decide_eq_true h
  obtain ⟨m, k, e, _⟩ := read_finite single hr
  have : floatBits .mul .f32 x x = some (single.write (.number false (m * m) (single.leastPlace + k + (single.leastPlace + k)))) := by
    show single.mul x x = _
    unfold Format.mul
    rw [e]
    simp only [Datum.product, Option.map_some]
    cases negOf single x <;> rfl
  show fop .mul .f32 x x ≤ _
  rw [fop_some this]
  exact nearest_le single _ _
theorem add_le {x y : Nat} (hx : x ≤ 2139095040) (hy : y ≤ 2139095040) : ad x y ≤ 2139095040 := by
  have : ∃ r, floatBits .add .f32 x y = some r ∧ r ≤ 2139095040 := by
    show ∃ r, single.add x y = some r ∧ r ≤ 2139095040
    unfold Format.add
    rcases r32 hx with ⟨m, k, e, _, _⟩ | ⟨e, _⟩ <;> rcases r32 hy with ⟨n, j, g, _, _⟩ | ⟨g, _⟩ <;> rw [e, g]
    · simp only [Datum.sum, Option.map_some]
      refine ⟨_, rfl, ?_⟩
      have s0 : ∀ a u : Nat, signed false a u = ((a <<< u : Nat) : Int) := fun a u => by simp [signed]
      rw [s0, s0]
      rw [sum_sign]
      exact nearest_le single _ _
    · exact ⟨_, rfl, by decide⟩
    · exact ⟨_, rfl, by decide⟩
    · exact ⟨_, rfl, by decide⟩
  obtain ⟨r, h, l⟩ := this
  show fop .add .f32 x y ≤ _
  rw [fop_some h]; exact l
/-- A product of two such numbers, the first neither 0 nor infinite. -/
theorem mul_le {x y : Nat} (h0 : x ≠ 0) (hi : x < 2139095040) (hy : y ≤ 2139095040) : mu x y ≤ 2139095040 := by
  have : ∃ r, floatBits .mul .f32 x y = some r ∧ r ≤ 2139095040 := by
    show ∃ r, single.mul x y = some r ∧ r ≤ 2139095040
    unfold Format.mul
    rcases r32 (Nat.le_of_lt hi) with ⟨m, k, e, z, _⟩ | ⟨_, e⟩
    · have m0 : m ≠ 0 := fun h => h0 (z h)
      rcases r32 hy with ⟨n, j, g, _, _⟩ | ⟨g, _⟩ <;> rw [e, g]
      · simp only [Datum.product, Option.map_some]
        exact ⟨_, rfl, nearest_le single _ _⟩
      · simp only [Datum.product, if_neg m0, Option.map_some]
        exact ⟨_, rfl, by decide⟩
    · omega
  obtain ⟨r, h, l⟩ := this
  show fop .mul .f32 x y ≤ _
  rw [fop_some h]; exact l
theorem one_over {y : Nat} (hy : y ≤ 2139095040) : qu 1065353216 y ≤ 2139095040 := by
  have : ∃ r, floatBits .quo .f32 1065353216 y = some r ∧ r ≤ 2139095040 := by
    show ∃ r, single.div 1065353216 y = some r ∧ r ≤ 2139095040
    unfold Format.div
    have e : single.read 1065353216 = .number false 8388608 (-23) := by decide +kernel
    rcases r32 hy with ⟨n, j, g, _, _⟩ | ⟨g, _⟩ <;> rw [e, g]
    · simp only [Datum.quotient]
      by_cases n0 : n = 0
      · rw [if_pos n0, if_neg (by decide)]
        exact ⟨_, rfl, by decide⟩
      · rw [if_neg n0]
        exact ⟨_, rfl, nearest_le single _ _⟩
    · simp only [Datum.quotient, Option.map_some]
      exact ⟨_, rfl, nearest_le single _ _⟩
  obtain ⟨r, h, l⟩ := this
  show fop .quo .f32 1065353216 y ≤ _
  rw [fop_some h]; exact l
theorem root_le {x : Nat} (h : x ≤ 2139095040) : rootF x ≤ 2139095040 := by
  rcases Nat.lt_or_eq_of_le h with h1 | h1
  · have hr : rungAt single x < single.infRung := by unfold rungAt; rw [Nat.mod_eq_of_lt (by show x < 2147483648; omega)]; exact h1
    have hn : negOf single x = false := by unfold negOf; rw [Nat.div_eq_of_lt (by show x < 2147483648; omega)]; rfl
    obtain ⟨c1, c2, c3, c4⟩ := cv_finite hr
    rw [hn] at c1
    have hu : fsq (cv x) ≤ double.infRung := by
      obtain ⟨m, k, e, _⟩ := read_finite double c2
      unfold fsq Format.sqrt
      rw [e, c1]
      unfold Datum.root
      by_cases m0 : m = 0
      · simp only [if_pos m0, Option.map_some, Option.getD_some]; exact nearest_le double _ _
      · simp only [if_neg m0, Bool.false_eq_true, if_false, Option.map_some, Option.getD_some]; exact nearest_le double _ _
    have hq : nanB .f64 (fsq (cv x)) = false := by
      refine nanB_of_rung (k := .f64) ?_
      show rungAt double _ ≤ double.infRung
      unfold rungAt; rw [Nat.mod_eq_of_lt (Nat.lt_of_le_of_lt hu (by decide))]; exact hu
    obtain ⟨c, hc⟩ := root_narrow x hq
    unfold rootF nar
    rw [hc, Option.getD_some]
    unfold floatToFloatBits at hc
    rw [if_neg (by decide)] at hc
    have hc' : (match double.read (fsq (cv x)) with | .nan _ _ => none | .infinity s => some (single.write (.infinity s)) | .number s m e => if (single.read (single.write (.number s m e))).isInfinity then none else some (single.write (.number s m e))) = some c := hc
    rcases read_le double (by decide) (by decide) hu with ⟨m, k, e, _, _⟩ | ⟨e, _⟩ <;> rw [e] at hc'
    · dsimp only at hc'
      split at hc'
      · cases hc'
      · injection hc' with hc'; rw [← hc']; exact nearest_le single _ _
    · injection hc' with hc'; rw [← hc']; decide
  · subst h1; decide +kernel
/-- q times its root. -/
theorem cube_le {q : Nat} (h : q ≤ 2139095040) : mu q (rootF q) ≤ 2139095040 := by
  by_cases h0 : q = 0
  · subst h0; decide +kernel
  · rcases Nat.lt_or_eq_of_le h with h1 | h1
    · exact mul_le h0 h1 (root_le h)
    · subst h1; decide +kernel
/-- A sum of three squares. -/
theorem squares_le {x y z : Nat} (hx : finB x = true) (hy : finB y = true) (hz : finB z = true) : ad (ad (mu x x) (mu y y)) (mu z z) ≤ 2139095040 := add_le (add_le (square_le hx) (square_le hy)) (square_le hz)
theorem same_le {x y : Nat} (h : Same .f32 x y) (hy : y ≤ 2139095040) : x = y := by
  rcases h with h | ⟨_, h⟩
  · exact h
  · rw [le_nan hy] at h; cases h
theorem quo_run {P : Program} {t : TypeId} {y : Nat} (hy : y ≤ 2139095040) (w : World) : (binOp .quo t (.float .f32 1065353216) (.float .f32 y)).run P w = .ok (.float .f32 (qu 1065353216 y)) w := by
  have hn := le_nan (one_over hy)
  have hf : floatBits .quo .f32 1065353216 y = some (fop .quo .f32 1065353216 y) := by
    cases e : floatBits .quo .f32 1065353216 y with
    | some r => unfold fop; rw [e]; rfl
    | none => have : nanB .f32 (fop .quo .f32 1065353216 y) = true := by unfold fop; rw [e]; exact cnan_nan .f32
              rw [show fop .quo .f32 1065353216 y = qu 1065353216 y from rfl, hn] at this; cases this
  exact run_float_arith w .quo t .f32 _ _ _ hf
end Go.Proofs.Ytcmmafkmfahijaa
