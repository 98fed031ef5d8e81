/- Contracts of AxisField. Conditions: none. -/
import Derived.Test.YtcmmafkmfahijaaRoot
namespace Go.Proofs.Ytcmmafkmfahijaa
open Go.RowKit

theorem finB_nan {x : Nat} (h : nanB .f32 x = true) : finB x = false := by
  unfold finB
  rw [nanB_eq, decide_eq_true_eq] at h
  have : Ieee.single.infRung < rungAt Ieee.single x := h
  exact decide_eq_false (by omega)
theorem finB_same {r x : Nat} (h : Same .f32 r x) : finB r = finB x := by
  rcases h with rfl | ⟨h1, h2⟩
  · rfl
  · rw [finB_nan h1, finB_nan h2]

/-- Finite and greater than 0. -/
def lenB (x : Nat) : Bool := finB x && (FloatKind.f32.format.order x 0 == some .gt)
def axisV (r h c : Nat) : Nat := qu (mu (mu 1086918619 c) (mu r r)) (mu (ad (mu r r) (mu h h)) (rootF (ad (mu r r) (mu h h))))
def axisB (r h c : Nat) : Bool := lenB r && (finB h && (finB c && finB (axisV r h c)))
/-- Returns a number and a flag. -/
def FlagNum (b : Bool) (X : Nat) (w : World) (e : Ending) (w' : World) : Prop :=
  ∃ r n, e = .returned (.tuple #[.float .f32 r, .bool b]) ∧ Same .f32 r (if b then X else 0) ∧ w' = w.drewN n

theorem spec_size (x : Nat) (w : World) : Calls Try.prog 84 #[.float .f32 x] w fun e w' => e = .returned (.bool (lenB x)) ∧ ∃ n, w' = w.drewN n := by
  cases h1 : finB x <;> cases h2 : (FloatKind.f32.format.order x 0 == some .gt)
  all_goals
    unfold lenB
    rw [h1, h2]
    go_enter Try.func84, Try.ntmps84
    go_wp2_with (first | (go_at_call 73; refine (spec_l01Finite _ _).mono ?_; rintro e w' ⟨rfl, n, rfl⟩))
    go_ret
    exact ⟨rfl, _, rfl⟩
theorem impl_isLength (x : Nat) (w : World) : Calls Try.prog 87 #[.float .f32 x] w fun e w' => e = .returned (.bool (lenB x)) ∧ ∃ n, w' = w.drewN n := by
  cases h1 : finB x <;> cases h2 : (FloatKind.f32.format.order x 0 == some .gt)
  all_goals
    unfold lenB
    rw [h1, h2]
    go_enter Try.func87, Try.ntmps87
    go_wp2_with (first | (go_at_call 35; refine (impl_IsFinite _ _).mono ?_; rintro e w' ⟨rfl, n, rfl⟩))
    go_ret
    exact ⟨rfl, _, rfl⟩
theorem spec_number (x X : Nat) (h : Same .f32 x X) (w : World) : Calls Try.prog 86 #[.float .f32 x] w (FlagNum (finB X) X w) := by
  rw [← finB_same h]
  cases h1 : finB x
  all_goals
    go_enter Try.func86, Try.ntmps86
    go_wp2_with (first | (go_at_call 73; refine (spec_l01Finite _ _).mono ?_; rintro e w' ⟨rfl, n, rfl⟩))
    go_ret2
    exact ⟨_, _, rfl, by first | exact h | exact Same.refl _ _, rfl⟩
theorem impl_ifNumber (x X : Nat) (h : Same .f32 x X) (w : World) : Calls Try.prog 88 #[.float .f32 x] w (FlagNum (finB X) X w) := by
  rw [← finB_same h]
  cases h1 : finB x
  all_goals
    go_enter Try.func88, Try.ntmps88
    go_wp2_with (first | (go_at_call 35; refine (impl_IsFinite _ _).mono ?_; rintro e w' ⟨rfl, n, rfl⟩))
    go_ret2
    exact ⟨_, _, rfl, by first | exact h | exact Same.refl _ _, rfl⟩
theorem spec_axis (r h c : Nat) (w : World) : Calls Try.prog 47 #[.float .f32 r, .float .f32 h, .float .f32 c] w (FlagNum (axisB r h c) (axisV r h c) w) := by
  cases h1 : lenB r <;> cases h2 : finB h <;> cases h3 : finB c
  case true.true.true =>
    have e : axisB r h c = finB (axisV r h c) := by unfold axisB; rw [h1, h2, h3]; rfl
    rw [e]; clear e
    go_enter Try.func47, Try.ntmps47
    go_wp2_with (first | (refine wpList_fop rfl rfl rfl rfl rfl ?_; intro _ _ _) | (go_at_call 84; refine (spec_size _ _).mono ?_; rintro e w' ⟨rfl, n, rfl⟩) | (go_at_call 73; refine (spec_l01Finite _ _).mono ?_; rintro e w' ⟨rfl, n, rfl⟩) | (go_at_call 85; refine (spec_l01Sqrt _ _).mono ?_; rintro e w' ⟨rr, n, rfl, hrr, rfl⟩) | (go_at_call 86; refine (spec_number _ (axisV r h c) (by unfold axisV; (repeat' (first | exact Same.refl _ _ | assumption | (with_reducible refine Same.trans (by assumption) (rootF_same ?_)) | (apply Same.step; assumption)))) _).mono ?_; rintro e w' ⟨x, n, rfl, hx, rfl⟩))
    go_ret2
    exact ⟨_, _, rfl, hx, rfl⟩
  all_goals
    have e : axisB r h c = false := by unfold axisB; rw [h1, h2, h3]; rfl
    rw [e]; clear e
    go_enter Try.func47, Try.ntmps47
    go_wp2_with (first | (go_at_call 84; refine (spec_size _ _).mono ?_; rintro e w' ⟨rfl, n, rfl⟩) | (go_at_call 73; refine (spec_l01Finite _ _).mono ?_; rintro e w' ⟨rfl, n, rfl⟩))
    go_ret2
    exact ⟨_, _, rfl, Same.refl _ _, rfl⟩
theorem impl_axis (r h c : Nat) (w : World) : Calls Try.prog 48 #[.float .f32 r, .float .f32 h, .float .f32 c] w (FlagNum (axisB r h c) (axisV r h c) w) := by
  cases h1 : lenB r <;> cases h2 : finB h <;> cases h3 : finB c
  case true.true.true =>
    have e : axisB r h c = finB (axisV r h c) := by unfold axisB; rw [h1, h2, h3]; rfl
    rw [e]; clear e
    go_enter Try.func48, Try.ntmps48
    go_wp2_with (first | (refine wpList_fop rfl rfl rfl rfl rfl ?_; intro _ _ _) | (go_at_call 87; refine (impl_isLength _ _).mono ?_; rintro e w' ⟨rfl, n, rfl⟩) | (go_at_call 35; refine (impl_IsFinite _ _).mono ?_; rintro e w' ⟨rfl, n, rfl⟩) | (go_at_call 81; refine (impl_RootNumber _ _).mono ?_; rintro e w' ⟨rr, n, rfl, hrr, rfl⟩) | (go_at_call 88; refine (impl_ifNumber _ (axisV r h c) (by unfold axisV; (repeat' (first | exact Same.refl _ _ | assumption | (with_reducible refine Same.trans (by assumption) (rootF_same ?_)) | (apply Same.step; assumption)))) _).mono ?_; rintro e w' ⟨x, n, rfl, hx, rfl⟩))
    go_ret2
    exact ⟨_, _, rfl, hx, rfl⟩
  all_goals
    have e : axisB r h c = false := by unfold axisB; rw [h1, h2, h3]; rfl
    rw [e]; clear e
    go_enter Try.func48, Try.ntmps48
    go_wp2_with (first | (go_at_call 87; refine (impl_isLength _ _).mono ?_; rintro e w' ⟨rfl, n, rfl⟩) | (go_at_call 35; refine (impl_IsFinite _ _).mono ?_; rintro e w' ⟨rfl, n, rfl⟩))
    go_ret2
    exact ⟨_, _, rfl, Same.refl _ _, rfl⟩
end Go.Proofs.Ytcmmafkmfahijaa
