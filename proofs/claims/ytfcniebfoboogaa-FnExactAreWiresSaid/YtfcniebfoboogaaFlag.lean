/- A vector and a flag. Conditions: none. -/
import Derived.Test.YtfcniebfoboogaaHeld
namespace Go.Proofs.Ytfcniebfoboogaa
open Go.RowKit

/-- Returns a vector and a flag. -/
def FlagVec (b : Bool) (X Y Z : Nat) (w : World) (e : Ending) (w' : World) : Prop :=
  ∃ x y z, e = .returned (.tuple #[vecV x y z, .bool b]) ∧ Same .f32 x (if b then X else 0) ∧ Same .f32 y (if b then Y else 0) ∧ Same .f32 z (if b then Z else 0) ∧ Below w.heap.size w w'
def vfin (x y z : Nat) : Bool := finB x && (finB y && finB z)
theorem finB_same {x y : Nat} (h : Same .f32 x y) : finB x = finB y := by
  rcases h with rfl | ⟨h1, h2⟩
  · rfl
  · have nf : ∀ {z : Nat}, nanB .f32 z = true → finB z = false := fun {z} hz => by
      unfold finB
      rw [nanB_eq, decide_eq_true_eq] at hz
      exact decide_eq_false (by unfold rungAt; have hz' : Ieee.single.infRung < z % Ieee.single.signWeight := hz; omega)
    rw [nf h1, nf h2]
theorem spec_vector (x y z X Y Z : Nat) (hx : Same .f32 x X) (hy : Same .f32 y Y) (hz : Same .f32 z Z) (w : World) : Calls Try.prog 72 #[vecV x y z] w (FlagVec (vfin X Y Z) X Y Z w) := by
  unfold vfin
  rw [← finB_same hx, ← finB_same hy, ← finB_same hz]
  cases hb : (finB x && (finB y && finB z))
  · go_enter Try.func72, Try.ntmps72
    go_wp2_with (first | (go_at_call 89; refine (spec_vfin _ _ _ _).mono ?_; rw [hb]; rintro e w' ⟨rfl, hbl⟩; obtain ⟨hc, hf⟩ := bcell hbl))
    refine bodyPost_ret (v := .tuple #[vecV 0 0 0, .bool false]) (by simp [results, Try.results72, go_sem, hc]) rfl ?_
    refine ⟨_, _, _, rfl, Same.refl _ _, Same.refl _ _, Same.refl _ _, ?_⟩
    (repeat' (first | with_reducible exact Below.refl _ _ | with_reducible assumption | with_reducible exact belowNext (by assumption) (by assumption) | with_reducible exact belowAlloc (by assumption) _ | refine below_drewN ?_ _ | refine Below.alloc ?_ (by first | exact Nat.le_refl _ | (simp <;> omega)) _ | refine Below.setCell ?_ (by first | exact Nat.le_refl _ | (simp <;> omega)) _ | refine Below.trans ?_ (Below.mono (by assumption) (by first | exact Nat.le_refl _ | (simp <;> omega)))))
  · go_enter Try.func72, Try.ntmps72
    go_wp2_with (first | (go_at_call 89; refine (spec_vfin _ _ _ _).mono ?_; rw [hb]; rintro e w' ⟨rfl, hbl⟩; obtain ⟨hc, hf⟩ := bcell hbl))
    refine bodyPost_ret (v := .tuple #[vecV x y z, .bool true]) (by simp [results, Try.results72, go_sem, hc]) rfl ?_
    refine ⟨_, _, _, rfl, hx, hy, hz, ?_⟩
    (repeat' (first | with_reducible exact Below.refl _ _ | with_reducible assumption | with_reducible exact belowNext (by assumption) (by assumption) | with_reducible exact belowAlloc (by assumption) _ | refine below_drewN ?_ _ | refine Below.alloc ?_ (by first | exact Nat.le_refl _ | (simp <;> omega)) _ | refine Below.setCell ?_ (by first | exact Nat.le_refl _ | (simp <;> omega)) _ | refine Below.trans ?_ (Below.mono (by assumption) (by first | exact Nat.le_refl _ | (simp <;> omega)))))
theorem impl_ifVector (x y z X Y Z : Nat) (hx : Same .f32 x X) (hy : Same .f32 y Y) (hz : Same .f32 z Z) (w : World) : Calls Try.prog 75 #[vecV x y z] w (FlagVec (vfin X Y Z) X Y Z w) := by
  unfold vfin
  rw [← finB_same hx, ← finB_same hy, ← finB_same hz]
  cases hb : (finB x && (finB y && finB z))
  · go_enter Try.func75, Try.ntmps75
    go_wp2_with (first | (go_at_call 92; refine (impl_vfin _ _ _ _).mono ?_; rw [hb]; rintro e w' ⟨rfl, hbl⟩; obtain ⟨hc, hf⟩ := bcell hbl))
    refine bodyPost_ret (v := .tuple #[vecV 0 0 0, .bool false]) (by simp [results, Try.results75, go_sem, hc]) rfl ?_
    refine ⟨_, _, _, rfl, Same.refl _ _, Same.refl _ _, Same.refl _ _, ?_⟩
    (repeat' (first | with_reducible exact Below.refl _ _ | with_reducible assumption | with_reducible exact belowNext (by assumption) (by assumption) | with_reducible exact belowAlloc (by assumption) _ | refine below_drewN ?_ _ | refine Below.alloc ?_ (by first | exact Nat.le_refl _ | (simp <;> omega)) _ | refine Below.setCell ?_ (by first | exact Nat.le_refl _ | (simp <;> omega)) _ | refine Below.trans ?_ (Below.mono (by assumption) (by first | exact Nat.le_refl _ | (simp <;> omega)))))
  · go_enter Try.func75, Try.ntmps75
    go_wp2_with (first | (go_at_call 92; refine (impl_vfin _ _ _ _).mono ?_; rw [hb]; rintro e w' ⟨rfl, hbl⟩; obtain ⟨hc, hf⟩ := bcell hbl))
    refine bodyPost_ret (v := .tuple #[vecV x y z, .bool true]) (by simp [results, Try.results75, go_sem, hc]) rfl ?_
    refine ⟨_, _, _, rfl, hx, hy, hz, ?_⟩
    (repeat' (first | with_reducible exact Below.refl _ _ | with_reducible assumption | with_reducible exact belowNext (by assumption) (by assumption) | with_reducible exact belowAlloc (by assumption) _ | refine below_drewN ?_ _ | refine Below.alloc ?_ (by first | exact Nat.le_refl _ | (simp <;> omega)) _ | refine Below.setCell ?_ (by first | exact Nat.le_refl _ | (simp <;> omega)) _ | refine Below.trans ?_ (Below.mono (by assumption) (by first | exact Nat.le_refl _ | (simp <;> omega)))))
end Go.Proofs.Ytfcniebfoboogaa
