/- The square root: it is not too great to be narrowed; contracts of RootNumber and LongOf. Conditions: none. -/
import Derived.Test.YtcmmafkmfahijaaBound
import Derived.Test.YtcmmafkmfahijaaVec
namespace Go.Proofs.Ytcmmafkmfahijaa
open Go.RowKit
open Ieee

theorem narrow_inf {u : Nat} (h : rungAt double u = double.infRung) : ∃ c, floatToFloatBits .f64 u .f32 = some c := by
  refine ⟨single.word (negOf double u) single.infRung, ?_⟩
  unfold floatToFloatBits
  rw [if_neg (by decide)]
  show (match double.read u with | .nan _ _ => none | .infinity s => some (single.write (.infinity s)) | .number s m e => if (single.read (single.write (.number s m e))).isInfinity then none else some (single.write (.number s m e))) = _
  rw [read_inf double (by decide) h]
  rfl

theorem narrow_same {u u' r : Nat} (h : Narrow u r) (hs : Same .f64 u u') (ht : nanB .f64 u' = false → ∃ c, floatToFloatBits .f64 u' .f32 = some c) : Same .f32 r (nar u') := by
  cases hn : nanB .f64 u' with
  | true =>
    have hu : nanB .f64 u = true := by rw [hs.nan_iff]; exact hn
    have : floatToFloatBits .f64 u' .f32 = none := by
      unfold floatToFloatBits
      rw [if_neg (by decide)]
      have h' : (double.read u').isNaN = true := hn
      show (match double.read u' with | .nan _ _ => none | .infinity s => some (single.write (.infinity s)) | .number s m e => if (single.read (single.write (.number s m e))).isInfinity then none else some (single.write (.number s m e))) = _
      generalize double.read u' = d at *
      cases d <;> simp [Datum.isNaN] at h'
      rfl
    refine .inr ⟨h.1 hu, ?_⟩
    unfold nar; rw [this]; exact cnan_nan .f32
  | false =>
    obtain ⟨c, hc⟩ := ht hn
    rcases hs with rfl | ⟨_, h2⟩
    · left; unfold nar; rw [hc]; exact h.2 c hc
    · rw [hn] at h2; cases h2

theorem rootFrom_lt (n : Nat) : ∀ (todo root : Nat), Datum.rootFrom n todo root < root + 2 ^ todo := by
  intro todo
  induction todo with
  | zero => intro root; simp [Datum.rootFrom]
  | succ t ih =>
    intro root
    unfold Datum.rootFrom
    rw [Nat.one_shiftLeft, Nat.pow_succ]
    dsimp only
    split
    · have := ih (root + 2 ^ t); omega
    · have := ih root; have := Nat.two_pow_pos t; omega

theorem fsqv_same {u u' : Nat} (w : World) (h : Same .f64 u u') : Same .f64 (fsqv u w) (fsq u') := by
  have hn : nanB .f64 u = true → nanB .f64 u' = true → Same .f64 (fsqv u w) (fsq u') := fun h1 h2 => by
    have e : ∀ {v : Nat}, nanB .f64 v = true → double.sqrt v = none := fun {v} hv => by
      unfold Format.sqrt
      have hv' : (double.read v).isNaN = true := hv
      generalize double.read v = d at *
      cases d <;> simp [Datum.isNaN] at hv'
      rfl
    refine .inr ⟨?_, ?_⟩
    · unfold fsqv; rw [e h1, Option.getD_none]; exact cut_nan .f64 u u _
    · unfold fsq; rw [e h2]; exact cnan_nan .f64
  rcases h with rfl | ⟨h1, h2⟩
  · cases e : double.sqrt u with
    | some r => left; unfold fsqv fsq; rw [e]; rfl
    | none => right; unfold fsqv fsq; rw [e]; rw [Option.getD_none]; exact ⟨cut_nan .f64 u u _, cnan_nan .f64⟩
  · exact hn h1 h2

/-- The square root of a number that is not too great is not too great. -/
theorem root_bd {k u : Nat} (hk : 1 ≤ k) (hk2 : k ≤ 1151) (h : Bd k u) : nanB .f64 (fsq u) = true ∨ Bd 1150 (fsq u) := by
  obtain ⟨m, i, e, _, b1, hm, _⟩ := bd_read hk (by omega) h
  unfold fsq Format.sqrt
  rw [e]
  show nanB .f64 (((Datum.root 54 _).map double.write).getD _) = true ∨ Bd 1150 (((Datum.root 54 _).map double.write).getD _)
  unfold Datum.root
  dsimp only
  by_cases h0 : m = 0
  · right
    rw [if_pos h0, h0]
    simp only [Option.map_some, Option.getD_some]
    exact bd_write_log (by omega) (by omega) (.inl rfl)
  · rw [if_neg h0]
    cases hs : negOf double u
    · right
      simp only [Bool.false_eq_true, if_false, Option.map_some, Option.getD_some]
      refine bd_write_log (by omega) (by omega) ?_
      have lm := log_of h0 b1
      have lm2 : m.log2 ≤ 52 := Nat.lt_succ_iff.1 ((Nat.log2_lt h0).2 (by omega))
      generalize hM : (2 * 54 - m.log2 + (((-1074 + (i : Int)) - ((2 * 54 - m.log2 : Nat) : Int)) % 2).toNat) = more
      have hmore1 : 108 ≤ more + m.log2 := by omega
      have hmore2 : more + m.log2 ≤ 109 := by omega
      have hn : (m <<< more).log2 = m.log2 + more := by rw [Nat.shiftLeft_eq, log2_mul_pow h0]
      have hw := rootFrom_lt (m <<< more) ((m <<< more).log2 / 2 + 1) 0
      rw [hn] at hw
      rw [hn]
      generalize Datum.rootFrom (m <<< more) ((m.log2 + more) / 2 + 1) 0 = whole at *
      have hst : (whole * whole != m <<< more).toNat ≤ 1 := Bool.toNat_le _
      generalize (whole * whole != m <<< more).toNat = st at *
      rw [Nat.zero_add] at hw
      have hlog : (2 * whole + st).log2 ≤ (m.log2 + more) / 2 + 1 := by
        by_cases hz : 2 * whole + st = 0
        · rw [hz]; exact Nat.zero_le _
        · refine Nat.lt_succ_iff.1 ((Nat.log2_lt hz).2 ?_)
          rw [Nat.pow_succ]; omega
      right
      omega
    · left
      simp only [if_true, Option.map_none, Option.getD_none]
      exact cnan_nan .f64

theorem root_inf {u : Nat} (h : rungAt double u = double.infRung) : nanB .f64 (fsq u) = true ∨ rungAt double (fsq u) = double.infRung := by
  unfold fsq Format.sqrt
  rw [read_inf double (by decide) h]
  cases negOf double u
  · right; decide +kernel
  · left; exact cnan_nan .f64

/-- The square root as a plain function. -/
def rootF (x : Nat) : Nat := nar (fsq (cv x))
theorem root_narrow (x : Nat) (h : nanB .f64 (fsq (cv x)) = false) : ∃ c, floatToFloatBits .f64 (fsq (cv x)) .f32 = some c := by
  rcases cases32 x with g | ⟨_, g⟩ | ⟨_, g⟩
  · have : nanB .f64 (fsq (cv x)) = true := by
      have hn : nanB .f64 (cv x) = true := by rw [nanB_cv]; exact g
      unfold fsq Format.sqrt
      have hv' : (double.read (cv x)).isNaN = true := hn
      generalize double.read (cv x) = d at *
      cases d <;> simp [Datum.isNaN] at hv'
      exact cnan_nan .f64
    rw [h] at this; cases this
  · rcases root_bd (by omega) (by omega) (cv_bd g) with h1 | h1
    · rw [h] at h1; cases h1
    · exact narrow_bd (by omega) (by omega) h1
  · have hi : rungAt double (cv x) = double.infRung := by rw [cv_inf g, rungAt_word _ _ (by decide)]
    rcases root_inf hi with h1 | h1
    · rw [h] at h1; cases h1
    · exact narrow_inf h1
theorem root_of {x r1 r2 r3 : Nat} (h1 : Same .f64 r1 (cv x)) (h2 : Same .f64 r2 (fsq r1)) (h3 : Narrow r2 r3) : Same .f32 r3 (rootF x) := by
  have e : Same .f64 (fsq r1) (fsq (cv x)) := ((fsqv_same ⟨#[], fun _ _ => 0, 0, default, #[]⟩ (Same.refl .f64 r1)).symm.trans (fsqv_same _ h1))
  exact narrow_same h3 (h2.trans e) (root_narrow x)
theorem rootF_same {x y : Nat} (h : Same .f32 x y) : Same .f32 (rootF x) (rootF y) := by
  rcases h with rfl | ⟨h1, h2⟩
  · exact .inl rfl
  · unfold rootF; rw [cv_nan h1, cv_nan h2]; exact .inl rfl

theorem math_Sqrt (x : Nat) (w : World) : Calls Try.prog 65 #[.float .f64 x] w fun e w' => ∃ r n, e = .returned (.float .f64 r) ∧ Same .f64 r (fsq x) ∧ w' = w.drewN n := by
  go_enter Try.func65, Try.ntmps65
  go_wp2_with fail
  go_ret
  exact ⟨_, _, rfl, fsqv_same w (Same.refl _ _), rfl⟩
theorem spec_l01Sqrt (x : Nat) (w : World) : Calls Try.prog 85 #[.float .f32 x] w fun e w' => ∃ r n, e = .returned (.float .f32 r) ∧ Same .f32 r (rootF x) ∧ w' = w.drewN n := by
  go_enter Try.func85, Try.ntmps85
  go_wp2_with (first | (refine wpList_wide some32 Try.underlying28 rfl rfl rfl ?_; intro _ _ _) | (refine wpList_narrow some64 Try.underlying23 rfl rfl rfl ?_; intro _ _ _) | (go_at_call 100; go_in) | (go_at_call 65; refine (math_Sqrt _ _).mono ?_; rintro e w' ⟨r2, n, rfl, h2, rfl⟩))
  go_ret
  exact ⟨_, _, rfl, root_of (by assumption) (by assumption) (by assumption), rfl⟩
theorem impl_RootNumber (x : Nat) (w : World) : Calls Try.prog 81 #[.float .f32 x] w fun e w' => ∃ r n, e = .returned (.float .f32 r) ∧ Same .f32 r (rootF x) ∧ w' = w.drewN n := by
  go_enter Try.func81, Try.ntmps81
  go_wp2_with (first | (refine wpList_wide some32 Try.underlying28 rfl rfl rfl ?_; intro _ _ _) | (refine wpList_narrow some64 Try.underlying23 rfl rfl rfl ?_; intro _ _ _) | (go_at_call 65; refine (math_Sqrt _ _).mono ?_; rintro e w' ⟨r2, n, rfl, h2, rfl⟩))
  go_ret
  exact ⟨_, _, rfl, root_of (by assumption) (by assumption) (by assumption), rfl⟩
theorem spec_long (x y z : Nat) (w : World) : Calls Try.prog 110 #[vecV x y z] w (NumIs (rootF (ad (ad (mu x x) (mu y y)) (mu z z))) w) := by
  go_enter Try.func110, Try.ntmps110
  go_wp2_with (first | (go_at_call 90; refine (spec_inner _ _ _ _ _ _ _).mono ?_; rintro e w' ⟨p, rfl, hp, hb⟩) | (go_at_call 85; refine (spec_l01Sqrt _ _).mono ?_; rintro e w' ⟨r, n, rfl, hr, rfl⟩))
  go_ret
  refine ⟨_, rfl, Same.trans (by assumption) (rootF_same (by assumption)), ?_⟩
  (repeat' (first | with_reducible exact Below.refl _ _ | with_reducible assumption | with_reducible exact belowNext (by assumption) (by assumption) | with_reducible exact belowAlloc (by assumption) _ | refine below_drewN ?_ _ | refine Below.alloc ?_ (by first | exact Nat.le_refl _ | (simp <;> omega)) _ | refine Below.setCell ?_ (by first | exact Nat.le_refl _ | (simp <;> omega)) _ | refine Below.trans ?_ (Below.mono (by assumption) (by first | exact Nat.le_refl _ | (simp <;> omega)))))
theorem impl_long (x y z : Nat) (w : World) : Calls Try.prog 42 #[vecV x y z] w (NumIs (rootF (ad (ad (mu x x) (mu y y)) (mu z z))) w) := by
  go_enter Try.func42, Try.ntmps42
  go_wp2_with (first | (go_at_call 82; refine (impl_inner _ _ _ _ _ _ _).mono ?_; rintro e w' ⟨p, rfl, hp, hb⟩) | (go_at_call 81; refine (impl_RootNumber _ _).mono ?_; rintro e w' ⟨r, n, rfl, hr, rfl⟩))
  go_ret
  refine ⟨_, rfl, Same.trans (by assumption) (rootF_same (by assumption)), ?_⟩
  (repeat' (first | with_reducible exact Below.refl _ _ | with_reducible assumption | with_reducible exact belowNext (by assumption) (by assumption) | with_reducible exact belowAlloc (by assumption) _ | refine below_drewN ?_ _ | refine Below.alloc ?_ (by first | exact Nat.le_refl _ | (simp <;> omega)) _ | refine Below.setCell ?_ (by first | exact Nat.le_refl _ | (simp <;> omega)) _ | refine Below.trans ?_ (Below.mono (by assumption) (by first | exact Nat.le_refl _ | (simp <;> omega)))))
end Go.Proofs.Ytcmmafkmfahijaa
