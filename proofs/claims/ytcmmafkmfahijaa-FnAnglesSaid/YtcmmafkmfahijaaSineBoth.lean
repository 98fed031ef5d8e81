/- The sine of some turns: the program and the reference compute one plain function. Conditions: the bits are those of a 32-bit number. -/
import Derived.Test.YtcmmafkmfahijaaSineImpl
namespace Go.Proofs.Ytcmmafkmfahijaa
open Go.RowKit
open Ieee (single double)

def s0 (y : Nat) : Nat := fop .sub .f64 y (floatOfInt .f64 (truncI y))
def s1 (y : Nat) : Nat := if (FloatKind.f64.format.order (s0 y) 0 == some .lt) then fop .add .f64 (s0 y) 4607182418800017408 else s0 y
def below (y : Nat) : Bool := (FloatKind.f64.format.order (s1 y) 4602678819172646912 == some .gt || FloatKind.f64.format.order (s1 y) 4602678819172646912 == some .eq)
def s2 (y : Nat) : Nat := if below y then fop .sub .f64 (s1 y) 4602678819172646912 else s1 y
def s3 (y : Nat) : Nat := if (FloatKind.f64.format.order (s2 y) 4598175219545276416 == some .gt) then fop .sub .f64 4602678819172646912 (s2 y) else s2 y
def sz (y : Nat) : Nat := fop .mul .f64 (s3 y) 4618760256179416344
def su (y : Nat) : Nat := fop .mul .f64 (sz y) (sz y)
def so (y : Nat) : Nat := fop .mul .f64 (sz y) (ser (su y) 8)
/-- The sine in 64 bits, of a finite number. -/
def sineW (y : Nat) : Nat := if 4841369599423283200 ≤ rungAt double y then 0 else if below y then Op.negFloat .f64 (so y) else so y

theorem b0 {y : Nat} (h : Bd 1075 y) : Bd 1023 (s0 y) := frac_bd h
theorem b1 {y : Nat} (h : Bd 1075 y) : Bd 1024 (s1 y) := by
  unfold s1; split
  · exact bd_add (by omega) (by omega) (b0 h) bd_one
  · exact bd_mono (b0 h) (by omega)
theorem b2 {y : Nat} (h : Bd 1075 y) : Bd 1025 (s2 y) := by
  unfold s2; split
  · exact bd_sub (by omega) (by omega) (b1 h) (bd_mono bd_half (by omega))
  · exact bd_mono (b1 h) (by omega)
theorem b3 {y : Nat} (h : Bd 1075 y) : Bd 1026 (s3 y) := by
  unfold s3; split
  · exact bd_sub (by omega) (by omega) (bd_mono bd_half (by omega)) (b2 h)
  · exact bd_mono (b2 h) (by omega)
theorem bz {y : Nat} (h : Bd 1075 y) : Bd 1029 (sz y) := bd_mul (a := 1026) (b := 1026) (by omega) (by omega) (by omega) (by omega) (by omega) (by omega) (by omega) (b3 h) bd_tau
theorem bu {y : Nat} (h : Bd 1075 y) : Bd 1035 (su y) := bd_mul (a := 1029) (b := 1029) (by omega) (by omega) (by omega) (by omega) (by omega) (by omega) (by omega) (bz h) (bz h)
theorem bo {y : Nat} (h : Bd 1075 y) : Bd 1125 (so y) := bd_mul (a := 1029) (b := 1119) (by omega) (by omega) (by omega) (by omega) (by omega) (by omega) (by omega) (bz h) (ser_bd (bu h) 8 (by omega))
theorem rung_neg64 (x : Nat) : rungAt double (Op.negFloat .f64 x) = rungAt double x := by
  show rungAt double (x ^^^ 2 ^ 63) = _
  unfold rungAt
  show (x ^^^ 2 ^ 63) % 2 ^ 63 = x % 2 ^ 63
  rw [Nat.xor_mod_two_pow]; simp
theorem sineW_bd (y : Nat) : Bd 1125 (sineW y) := by
  unfold sineW
  split
  · unfold Bd; decide +kernel
  · rename_i hb
    have hy : Bd 1075 y := by unfold Bd; omega
    split
    · unfold Bd; rw [rung_neg64]; exact bo hy
    · exact bo hy

/-- The tests for a great number. -/
theorem nan_fin {y : Nat} (h : rungAt double y < double.infRung) : nanB .f64 y = false := nanB_of_rung (k := .f64) (Nat.le_of_lt h)
theorem beq_gt (a b : Int) : (some (compare a b) == some Ordering.gt || some (compare a b) == some Ordering.eq) = decide (b ≤ a) := by
  rcases Int.lt_trichotomy a b with h | h | h
  · rw [Int.compare_eq_lt.2 h, decide_eq_false (by omega)]; rfl
  · subst h; rw [Int.compare_eq_eq.2 rfl, decide_eq_true (by omega)]; rfl
  · rw [Int.compare_eq_gt.2 h, decide_eq_true (by omega)]; rfl
theorem beq_lt (a b : Int) : (some (compare a b) == some Ordering.lt || some (compare a b) == some Ordering.eq) = decide (a ≤ b) := by
  rcases Int.lt_trichotomy a b with h | h | h
  · rw [Int.compare_eq_lt.2 h, decide_eq_true (by omega)]; rfl
  · subst h; rw [Int.compare_eq_eq.2 rfl, decide_eq_true (by omega)]; rfl
  · rw [Int.compare_eq_gt.2 h, decide_eq_false (by omega)]; rfl
theorem key_pos52 : keyOf double 4841369599423283200 = 4841369599423283200 := by decide +kernel
theorem key_neg52 : keyOf double 14064741636278059008 = -4841369599423283200 := by decide +kernel
theorem pos52 : nanB .f64 4841369599423283200 = false := by decide +kernel
theorem neg52 : nanB .f64 14064741636278059008 = false := by decide +kernel
theorem big_pos {y : Nat} (h : nanB .f64 y = false) : (FloatKind.f64.format.order y 4841369599423283200 == some .gt || FloatKind.f64.format.order y 4841369599423283200 == some .eq) = decide (4841369599423283200 ≤ keyOf double y) := by
  rw [order_eq, h, pos52]
  show (some (compare (keyOf double y) (keyOf double 4841369599423283200)) == _ || some (compare (keyOf double y) (keyOf double 4841369599423283200)) == _) = _
  rw [beq_gt, key_pos52]
theorem big_neg {y : Nat} (h : nanB .f64 y = false) : (FloatKind.f64.format.order y 14064741636278059008 == some .lt || FloatKind.f64.format.order y 14064741636278059008 == some .eq) = decide (keyOf double y ≤ -4841369599423283200) := by
  rw [order_eq, h, neg52]
  show (some (compare (keyOf double y) (keyOf double 14064741636278059008)) == _ || some (compare (keyOf double y) (keyOf double 14064741636278059008)) == _) = _
  rw [beq_lt, key_neg52]
theorem key_rung64 (y : Nat) : keyOf double (rungAt double y) = rungAt double y := by
  have l : rungAt double y < double.signWeight := Nat.mod_lt _ (by decide)
  have e : rungAt double (rungAt double y) = rungAt double y := Nat.mod_eq_of_lt l
  have n : negOf double (rungAt double y) = false := by unfold negOf; rw [Nat.div_eq_of_lt l]; rfl
  unfold keyOf; rw [n, e]; rfl
theorem big_abs {y : Nat} (h : nanB .f64 y = false) : (FloatKind.f64.format.order (rungAt double y) 4841369599423283200 == some .gt || FloatKind.f64.format.order (rungAt double y) 4841369599423283200 == some .eq) = decide (4841369599423283200 ≤ rungAt double y) := by
  have l : rungAt double y < double.signWeight := Nat.mod_lt _ (by decide)
  have h' : nanB .f64 (rungAt double y) = false := by
    have e : rungAt double (rungAt double y) = rungAt double y := Nat.mod_eq_of_lt l
    rw [nanB_eq] at h ⊢
    show decide (_ < rungAt double (rungAt double y)) = false
    rw [e]; exact h
  rw [big_pos h', key_rung64]
  exact decide_eq_decide.2 Int.ofNat_le
theorem key_abs (y : Nat) : keyOf double y = rungAt double y ∨ keyOf double y = -(rungAt double y : Int) := by
  unfold keyOf sgn; split
  · exact .inr rfl
  · exact .inl rfl

/-- What a finite 32-bit number is when it is widened. -/
theorem fin_cval {x : Nat} (h : finB x = true) : (∀ w, cval .f32 x .f64 w = cv x) ∧ ccnt .f32 x .f64 = 0 ∧ rungAt double (cv x) < double.infRung ∧ cv x < 18446744073709551616 := by
  have g : rungAt single x < single.infRung := by unfold finB at h; exact of_decide_eq_true h
  obtain ⟨_, g2, _, g4⟩ := cv_finite g
  obtain ⟨r, hr, _⟩ := wide_finite g
  refine ⟨fun w => ?_, ?_, g2, g4⟩
  · unfold cval cv; rw [hr]; rfl
  · unfold ccnt; rw [hr]; rfl

theorem h00 : FloatKind.f64.format.order 0 0 = some .eq := by decide +kernel
theorem n00 : nanB .f64 0 = false := by decide +kernel

/-- The sine of some turns. -/
def sineF (x : Nat) : Nat := if finB x then nar (sineW (cv x)) else cnan .f32
theorem sine_nan {x r : Nat} (hx : finB x = false) (h : nanB .f32 r = true) : Same .f32 r (sineF x) := .inr ⟨h, by unfold sineF; rw [hx]; exact cnan_nan .f32⟩
theorem sine_fin {x r : Nat} (hx : finB x = true) (h : Narrow (sineW (cv x)) r) : Same .f32 r (sineF x) := by
  unfold sineF; rw [hx]
  exact narrow_same h (Same.refl _ _) (fun _ => narrow_bd (by omega) (by omega) (sineW_bd _))
theorem nar_zero : nar 0 = 0 := by decide +kernel
theorem impl_sine_core {x y : Nat} (hfin : finB x = true) (c1 : ∀ w, cval .f32 x .f64 w = y) (c2 : ccnt .f32 x .f64 = 0) (hy64 : y < 18446744073709551616) (hf : rungAt double y < double.infRung) (hb : rungAt double y < 4841369599423283200) (w : World) :
    Calls Try.prog 43 #[.float .f32 x] w fun e w' => ∃ r n, e = .returned (.float .f32 r) ∧ Narrow (if below y then Op.negFloat .f64 (so y) else so y) r ∧ w' = w.drewN n := by
  have hy : Bd 1075 y := by unfold Bd; omega
  have hc : ∀ w, (convert 28 2 (.float .f64 y)).run Try.prog w = .ok (.int .i64 (truncI y)) w := fun w => run_convert_float_int w _ _ .f64 .i64 y _ (by rw [Try.underlying28]; rfl) Try.underlying2 (trunc_fits hy).2
  have hn := nan_fin hf
  have hb1 := big_abs hn
  rw [decide_eq_false (by omega)] at hb1
  cases t1 : (FloatKind.f64.format.order (s0 y) 0 == some .lt) <;> cases t2 : below y <;> cases t3 : (FloatKind.f64.format.order (s2 y) 4598175219545276416 == some .gt)
  ·
    have e1 : s1 y = s0 y := by unfold s1; rw [t1]; rfl
    have e2 : s2 y = s1 y := by unfold s2; rw [t2]; rfl
    have e3 : s3 y = s2 y := by unfold s3; rw [t3]; rfl
    exact impl_sine_000 x y (truncI y) (s0 y) (s1 y) (s2 y) (s3 y) (sz y) (su y) (so y) hfin c1 c2 hy64 hc rfl n00 (bd_not_nan (by omega) (b0 hy)) t1 e1 t2 e2 t3 e3 rfl (bd_not_nan (by omega) (bz hy)) rfl (bd_not_nan (by omega) (bu hy)) (Lib.hid (bu hy)) rfl (bd_not_nan (by omega) (bo hy)) hb1 w
  ·
    have e1 : s1 y = s0 y := by unfold s1; rw [t1]; rfl
    have e2 : s2 y = s1 y := by unfold s2; rw [t2]; rfl
    have e3 : s3 y = fop .sub .f64 4602678819172646912 (s2 y) := by unfold s3; rw [t3]; rfl
    exact impl_sine_001 x y (truncI y) (s0 y) (s1 y) (s2 y) (s3 y) (sz y) (su y) (so y) hfin c1 c2 hy64 hc rfl n00 (bd_not_nan (by omega) (b0 hy)) t1 e1 t2 e2 t3 e3.symm (bd_not_nan (by omega) (b3 hy)) rfl (bd_not_nan (by omega) (bz hy)) rfl (bd_not_nan (by omega) (bu hy)) (Lib.hid (bu hy)) rfl (bd_not_nan (by omega) (bo hy)) hb1 w
  ·
    have e1 : s1 y = s0 y := by unfold s1; rw [t1]; rfl
    have e2 : s2 y = fop .sub .f64 (s1 y) 4602678819172646912 := by unfold s2; rw [t2]; rfl
    have e3 : s3 y = s2 y := by unfold s3; rw [t3]; rfl
    exact impl_sine_010 x y (truncI y) (s0 y) (s1 y) (s2 y) (s3 y) (sz y) (su y) (so y) hfin c1 c2 hy64 hc rfl n00 (bd_not_nan (by omega) (b0 hy)) t1 e1 t2 e2.symm (bd_not_nan (by omega) (b2 hy)) t3 e3 rfl (bd_not_nan (by omega) (bz hy)) rfl (bd_not_nan (by omega) (bu hy)) (Lib.hid (bu hy)) rfl (bd_not_nan (by omega) (bo hy)) hb1 w
  ·
    have e1 : s1 y = s0 y := by unfold s1; rw [t1]; rfl
    have e2 : s2 y = fop .sub .f64 (s1 y) 4602678819172646912 := by unfold s2; rw [t2]; rfl
    have e3 : s3 y = fop .sub .f64 4602678819172646912 (s2 y) := by unfold s3; rw [t3]; rfl
    exact impl_sine_011 x y (truncI y) (s0 y) (s1 y) (s2 y) (s3 y) (sz y) (su y) (so y) hfin c1 c2 hy64 hc rfl n00 (bd_not_nan (by omega) (b0 hy)) t1 e1 t2 e2.symm (bd_not_nan (by omega) (b2 hy)) t3 e3.symm (bd_not_nan (by omega) (b3 hy)) rfl (bd_not_nan (by omega) (bz hy)) rfl (bd_not_nan (by omega) (bu hy)) (Lib.hid (bu hy)) rfl (bd_not_nan (by omega) (bo hy)) hb1 w
  ·
    have e1 : s1 y = fop .add .f64 (s0 y) 4607182418800017408 := by unfold s1; rw [t1]; rfl
    have e2 : s2 y = s1 y := by unfold s2; rw [t2]; rfl
    have e3 : s3 y = s2 y := by unfold s3; rw [t3]; rfl
    exact impl_sine_100 x y (truncI y) (s0 y) (s1 y) (s2 y) (s3 y) (sz y) (su y) (so y) hfin c1 c2 hy64 hc rfl n00 (bd_not_nan (by omega) (b0 hy)) t1 e1.symm (bd_not_nan (by omega) (b1 hy)) t2 e2 t3 e3 rfl (bd_not_nan (by omega) (bz hy)) rfl (bd_not_nan (by omega) (bu hy)) (Lib.hid (bu hy)) rfl (bd_not_nan (by omega) (bo hy)) hb1 w
  ·
    have e1 : s1 y = fop .add .f64 (s0 y) 4607182418800017408 := by unfold s1; rw [t1]; rfl
    have e2 : s2 y = s1 y := by unfold s2; rw [t2]; rfl
    have e3 : s3 y = fop .sub .f64 4602678819172646912 (s2 y) := by unfold s3; rw [t3]; rfl
    exact impl_sine_101 x y (truncI y) (s0 y) (s1 y) (s2 y) (s3 y) (sz y) (su y) (so y) hfin c1 c2 hy64 hc rfl n00 (bd_not_nan (by omega) (b0 hy)) t1 e1.symm (bd_not_nan (by omega) (b1 hy)) t2 e2 t3 e3.symm (bd_not_nan (by omega) (b3 hy)) rfl (bd_not_nan (by omega) (bz hy)) rfl (bd_not_nan (by omega) (bu hy)) (Lib.hid (bu hy)) rfl (bd_not_nan (by omega) (bo hy)) hb1 w
  ·
    have e1 : s1 y = fop .add .f64 (s0 y) 4607182418800017408 := by unfold s1; rw [t1]; rfl
    have e2 : s2 y = fop .sub .f64 (s1 y) 4602678819172646912 := by unfold s2; rw [t2]; rfl
    have e3 : s3 y = s2 y := by unfold s3; rw [t3]; rfl
    exact impl_sine_110 x y (truncI y) (s0 y) (s1 y) (s2 y) (s3 y) (sz y) (su y) (so y) hfin c1 c2 hy64 hc rfl n00 (bd_not_nan (by omega) (b0 hy)) t1 e1.symm (bd_not_nan (by omega) (b1 hy)) t2 e2.symm (bd_not_nan (by omega) (b2 hy)) t3 e3 rfl (bd_not_nan (by omega) (bz hy)) rfl (bd_not_nan (by omega) (bu hy)) (Lib.hid (bu hy)) rfl (bd_not_nan (by omega) (bo hy)) hb1 w
  ·
    have e1 : s1 y = fop .add .f64 (s0 y) 4607182418800017408 := by unfold s1; rw [t1]; rfl
    have e2 : s2 y = fop .sub .f64 (s1 y) 4602678819172646912 := by unfold s2; rw [t2]; rfl
    have e3 : s3 y = fop .sub .f64 4602678819172646912 (s2 y) := by unfold s3; rw [t3]; rfl
    exact impl_sine_111 x y (truncI y) (s0 y) (s1 y) (s2 y) (s3 y) (sz y) (su y) (so y) hfin c1 c2 hy64 hc rfl n00 (bd_not_nan (by omega) (b0 hy)) t1 e1.symm (bd_not_nan (by omega) (b1 hy)) t2 e2.symm (bd_not_nan (by omega) (b2 hy)) t3 e3.symm (bd_not_nan (by omega) (b3 hy)) rfl (bd_not_nan (by omega) (bz hy)) rfl (bd_not_nan (by omega) (bu hy)) (Lib.hid (bu hy)) rfl (bd_not_nan (by omega) (bo hy)) hb1 w
theorem impl_sine_nan (x : Nat) (hx : finB x = false) (w : World) :
    Calls Try.prog 43 #[.float .f32 x] w fun e w' => ∃ r n, e = .returned (.float .f32 r) ∧ nanB .f32 r = true ∧ w' = w.drewN n := by
  go_enter Try.func43, Try.ntmps43
  go_wp2_with (first | (go_at_call 35; refine (impl_IsFinite _ _).mono ?_; rintro e w' ⟨rfl, nn, rfl⟩) | (go_at_call 63; refine (impl_noNumber _).mono ?_; rintro e w' ⟨r, n, rfl, hr, rfl⟩))
  go_ret
  exact ⟨_, _, rfl, hr, rfl⟩
theorem impl_sine_big {x y : Nat} (hfin : finB x = true) (c1 : ∀ w, cval .f32 x .f64 w = y) (c2 : ccnt .f32 x .f64 = 0) (hy64 : y < 18446744073709551616)
    (hb : (FloatKind.f64.format.order (rungAt double y) 4841369599423283200 == some .gt || FloatKind.f64.format.order (rungAt double y) 4841369599423283200 == some .eq) = true) (w : World) :
    Calls Try.prog 43 #[.float .f32 x] w fun e w' => ∃ n, e = .returned (.float .f32 0) ∧ w' = w.drewN n := by
  go_enter Try.func43, Try.ntmps43
  go_wp2_with (first | (go_at_call 35; refine (impl_IsFinite _ _).mono ?_; rintro e w' ⟨rfl, nn, rfl⟩) | (go_at_call 64; refine (math_Abs _ hy64 _).mono ?_; rintro e w' ⟨rfl, rfl⟩))
  go_ret
  exact ⟨_, rfl, rfl⟩
theorem impl_sine (x : Nat) (w : World) : Calls Try.prog 43 #[.float .f32 x] w fun e w' => ∃ r n, e = .returned (.float .f32 r) ∧ Same .f32 r (sineF x) ∧ w' = w.drewN n := by
  cases hx : finB x
  · refine (impl_sine_nan x hx w).mono ?_
    rintro e w' ⟨r, n, rfl, hr, rfl⟩
    exact ⟨r, n, rfl, sine_nan hx hr, rfl⟩
  · obtain ⟨c1, c2, hf, h64⟩ := fin_cval hx
    by_cases hb : rungAt double (cv x) < 4841369599423283200
    · refine (impl_sine_core hx c1 c2 h64 hf hb w).mono ?_
      rintro e w' ⟨r, n, rfl, hr, rfl⟩
      refine ⟨r, n, rfl, sine_fin hx ?_, rfl⟩
      unfold sineW; rw [if_neg (by omega)]; exact hr
    · refine (impl_sine_big hx c1 c2 h64 (by rw [big_abs (nan_fin hf)]; exact decide_eq_true (by omega)) w).mono ?_
      rintro e w' ⟨n, rfl, rfl⟩
      refine ⟨0, n, rfl, .inl ?_, rfl⟩
      unfold sineF sineW; rw [hx, if_pos rfl, if_pos (by omega), nar_zero]
end Go.Proofs.Ytcmmafkmfahijaa
