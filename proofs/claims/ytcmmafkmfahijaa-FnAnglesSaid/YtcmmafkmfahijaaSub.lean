/- Subnormal numbers: the two tests for them agree. Conditions: the bits are those of a 32-bit number. -/
import Derived.Test.YtcmmafkmfahijaaBase
namespace Go.Proofs.Ytcmmafkmfahijaa
open Go.RowKit
open Ieee (single double)

/-- A number is subnormal. -/
def subB (x : Nat) : Bool := decide (0 < rungAt single x ∧ rungAt single x < 8388608)

theorem rung_rung (x : Nat) : rungAt single (rungAt single x) = rungAt single x := by unfold rungAt; rw [single_sign]; omega
theorem neg_rung (x : Nat) : negOf single (rungAt single x) = false := by
  unfold negOf rungAt; rw [single_sign, Nat.div_eq_of_lt (Nat.mod_lt _ (by decide))]; rfl
theorem key_rung (x : Nat) : keyOf single (rungAt single x) = rungAt single x := by
  unfold keyOf; rw [neg_rung, rung_rung]; rfl

/-- The absolute value of a widened number is the widened absolute value. -/
theorem cv_abs {x : Nat} (h : nanB .f32 x = false) : rungAt double (cv x) = cv (rungAt single x) := by
  have key : ∀ {u v : Nat}, v < 18446744073709551616 → negOf double v = false → rungAt double u = rungAt double v → rungAt double u = v := by
    intro u v hv hn he
    have := word_of double (x := v) hv
    rw [hn] at this
    rw [he]; exact this
  rcases cases32 x with g | ⟨_, g⟩ | ⟨_, g⟩
  · rw [h] at g; cases g
  · obtain ⟨_, _, v1, _⟩ := cv_finite g
    have g' : rungAt single (rungAt single x) < single.infRung := by rw [rung_rung]; exact g
    obtain ⟨n2, _, v2, l2⟩ := cv_finite g'
    rw [rung_rung] at v2
    exact key l2 (n2.trans (neg_rung x)) ((rv_inj double).1 (v1.trans v2.symm))
  · have g' : rungAt single (rungAt single x) = single.infRung := by rw [rung_rung]; exact g
    rw [cv_inf g, rungAt_word _ _ (by decide), cv_inf g', neg_rung]; rfl

theorem cv_least : cv 8388608 = 4039728865751334912 := by decide +kernel
theorem cv_zero : cv 0 = 0 := by decide +kernel

theorem abs_small {x : Nat} (h : nanB .f32 x = false) : (FloatKind.f64.format.order (rungAt double (cv x)) 4039728865751334912 == some .lt) = decide (rungAt single x < 8388608) := by
  have e : FloatKind.f64.format.order (cv (rungAt single x)) (cv 8388608) = FloatKind.f32.format.order (rungAt single x) 8388608 := order_cv _ _
  have n1 : nanB .f32 (rungAt single x) = false := nanB_of_rung (k := .f32) (by show rungAt single (rungAt single x) ≤ single.infRung; rw [rung_rung]; exact le_of_not_nan h)
  have n2 : nanB .f32 8388608 = false := by decide +kernel
  rw [cv_abs h, ← cv_least, e, order_eq, n1, n2]
  simp only [Bool.or_self, Bool.false_eq_true, if_false]
  show (some (compare (keyOf single (rungAt single x)) (keyOf single 8388608)) == some .lt) = _
  have k2 : keyOf single 8388608 = 8388608 := by decide +kernel
  rw [key_rung, k2]
  by_cases hl : rungAt single x < 8388608
  · rw [cmp_lt (by omega), decide_eq_true hl]; rfl
  · rw [decide_eq_false hl]
    by_cases he : rungAt single x = 8388608
    · rw [he, cmp_eq (by rfl)]; rfl
    · rw [cmp_gt (by omega)]; rfl

/-- The test against zero. -/
theorem zero_test {x : Nat} (h : nanB .f32 x = false) : (FloatKind.f32.format.order x 0 == some .eq) = decide (rungAt single x = 0) := by
  have n2 : nanB .f32 0 = false := by decide +kernel
  rw [order_eq, h, n2]
  simp only [Bool.or_self, Bool.false_eq_true, if_false]
  show (some (compare (keyOf single x) (keyOf single 0)) == some .eq) = _
  have k2 : keyOf single 0 = 0 := by decide +kernel
  rw [k2]
  unfold keyOf
  by_cases h0 : rungAt single x = 0
  · rw [h0, decide_eq_true rfl, cmp_eq (by cases negOf single x <;> rfl)]; rfl
  · rw [decide_eq_false h0]
    cases negOf single x
    · simp only [sgn, Bool.false_eq_true, if_false]; rw [cmp_gt (by omega)]; rfl
    · simp only [sgn, if_true]; rw [cmp_lt (by omega)]; rfl

theorem subB_nan {x : Nat} (h : nanB .f32 x = true) : subB x = false := by
  unfold subB
  rw [nan32, decide_eq_true_eq] at h
  unfold rungAt; rw [single_sign]
  exact decide_eq_false (by omega)

theorem exp_zero (x : Nat) : ((((x % 2147483648 / 8388608 * 8388608 : Nat) : Int)) == 0) = decide (rungAt single x < 8388608) := by
  unfold rungAt; rw [single_sign]
  by_cases h : x % 2147483648 < 8388608
  · rw [decide_eq_true h]; simp; omega
  · rw [decide_eq_false h, beq_eq_false_iff_ne]; omega

theorem impl_IsSubnormal (x : Nat) (w : World) : Calls Try.prog 46 #[.float .f32 x] w fun e w' => e = .returned (.bool (subB x)) ∧ ∃ n, w' = w.drewN n := by
  cases hn : nanB .f32 x with
  | true =>
    rw [subB_nan hn]
    have z : FloatKind.f32.format.order x 0 = none := order_nan_left _ hn
    have hlt : cval .f32 x .f64 w < 18446744073709551616 := by
      have := cut_nanConv .f64 x (w.tape w.drawn (.nanConv .f64 x))
      unfold cval; rw [wide_nan hn, if_pos hn, Option.getD_none]; simp only [Question.cut]; omega
    have hab : FloatKind.f64.format.order (rungAt double (cval .f32 x .f64 w)) 4039728865751334912 = none := by
      refine order_nan_left _ ?_
      have h1 : nanB .f64 (cval .f32 x .f64 w) = true := by rw [(cval_wide w (Same.refl .f32 x)).nan_iff, nanB_cv, hn]
      have h2 : nanB .f64 (rungAt double (cval .f32 x .f64 w)) = true := by
        rw [nan64, decide_eq_true_eq] at h1 ⊢
        unfold rungAt; rw [double_sign]; omega
      exact h2
    clear hn
    go_enter Try.func46, Try.ntmps46
    go_wp2_with (first | (go_at_call 64; refine (math_Abs _ hlt _).mono ?_; rintro e w' ⟨rfl, rfl⟩))
    go_ret
    exact ⟨rfl, _, rfl⟩
  | false =>
    have z := zero_test hn
    have c1 := cval_num hn
    have c2 := ccnt_num hn
    have ha := abs_small hn
    by_cases h0 : rungAt single x = 0
    · rw [decide_eq_true h0] at z
      have z' : (FloatKind.f32.format.order x 0 != some .eq) = false := by rw [bne, z]; rfl
      have e : subB x = false := by unfold subB; exact decide_eq_false (by omega)
      rw [e]; clear e hn h0 ha
      go_enter Try.func46, Try.ntmps46
      go_wp2_with fail
      go_ret
      exact ⟨rfl, 0, rfl⟩
    · rw [decide_eq_false h0] at z
      have z' : (FloatKind.f32.format.order x 0 != some .eq) = true := by rw [bne, z]; rfl
      have e : subB x = decide (rungAt single x < 8388608) := by
        unfold subB
        by_cases h : rungAt single x < 8388608
        · rw [decide_eq_true h]; exact decide_eq_true ⟨by omega, h⟩
        · rw [decide_eq_false h]; exact decide_eq_false (by omega)
      rw [e, ← ha]; clear e hn h0 ha
      go_enter Try.func46, Try.ntmps46
      go_wp2_with (first | (go_at_call 64; refine (math_Abs _ (cv_lt _) _).mono ?_; rintro e w' ⟨rfl, rfl⟩))
      go_ret
      exact ⟨rfl, 0, rfl⟩
end Go.Proofs.Ytcmmafkmfahijaa
