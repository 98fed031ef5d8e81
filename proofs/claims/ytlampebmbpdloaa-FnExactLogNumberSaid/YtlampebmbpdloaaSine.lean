/- Contracts of SineTurns. Conditions: the bits are those of a 32-bit number. -/
import Derived.Test.YtlampebmbpdloaaSinePlain
import Derived.Test.YtlampebmbpdloaaRoot
import Derived.Test.YtlampebmbpdloaaStep
import Derived.LoopTactic
namespace Go.Proofs.Ytlampebmbpdloaa
open Go.RowKit
open Ieee (single double)

def one64 : Nat := 4607182418800017408
/-- The divisors of the series. -/
def dq (k : Nat) : Nat := 2 * k * (2 * k + 1)
def dens (k : Nat) : Nat := floatOfInt .f64 (dq k : Int)
/-- The series behind some rounds. -/
def ser (u : Nat) : Nat → Nat
  | 0 => 4607182418800017408
  | i + 1 => fop .sub .f64 4607182418800017408 (fop .quo .f64 (fop .mul .f64 u (ser u i)) (dens (8 - i)))

theorem lo_of {x : Nat} (h : (decide (1025 * 4503599627370496 ≤ rungAt double x) && decide (rungAt double x < 9218868437227405312)) = true) : Lo 1025 x := by
  rw [Bool.and_eq_true, decide_eq_true_eq, decide_eq_true_eq] at h; exact h
theorem lo_dens : ∀ i, i < 8 → Lo 1025 (dens (8 - i)) := by
  intro i hi
  have key : ∀ i, i < 8 → (decide (1025 * 4503599627370496 ≤ rungAt double (dens (8 - i))) && decide (rungAt double (dens (8 - i)) < 9218868437227405312)) = true := by decide +kernel
  exact lo_of (key i hi)
theorem bd_one : Bd 1023 4607182418800017408 := by unfold Bd; decide +kernel
theorem bd_half : Bd 1023 4602678819172646912 := by unfold Bd; decide +kernel
theorem bd_tau : Bd 1026 4618760256179416344 := by unfold Bd; decide +kernel

theorem ser_bd {u : Nat} (hu : Bd 1035 u) : ∀ i, i ≤ 8 → Bd (1023 + 12 * i) (ser u i) := by
  intro i
  induction i with
  | zero => intro _; exact bd_mono bd_one (by omega)
  | succ i ih =>
    intro hi
    have h1 := bd_mul (a := 1035) (b := 1023 + 12 * i) (c := 1035 + 12 * i) (by omega) (by omega) (by omega) (by omega) (by omega) (by omega) (by omega) hu (ih (by omega))
    have h2 := bd_quo (a := 1035 + 12 * i) (b := 1025) (c := 1034 + 12 * i) (by omega) (by omega) (by omega) (by omega) (by omega) (by omega) h1 (lo_dens i (by omega))
    have h3 := bd_sub (k := 1034 + 12 * i) (by omega) (by omega) (bd_mono bd_one (by omega)) h2
    exact bd_mono h3 (by omega)
theorem ser_nums {u : Nat} (hu : Bd 1035 u) {i : Nat} (hi : i < 8) : nanB .f64 (fop .mul .f64 u (ser u i)) = false ∧ nanB .f64 (fop .quo .f64 (fop .mul .f64 u (ser u i)) (dens (8 - i))) = false ∧ nanB .f64 (ser u (i + 1)) = false := by
  have h1 := bd_mul (a := 1035) (b := 1023 + 12 * i) (c := 1035 + 12 * i) (by omega) (by omega) (by omega) (by omega) (by omega) (by omega) (by omega) hu (ser_bd hu i (by omega))
  have h2 := bd_quo (a := 1035 + 12 * i) (b := 1025) (c := 1034 + 12 * i) (by omega) (by omega) (by omega) (by omega) (by omega) (by omega) h1 (lo_dens i hi)
  exact ⟨bd_not_nan (by omega) h1, bd_not_nan (by omega) h2, bd_not_nan (by omega) (ser_bd hu (i + 1) (by omega))⟩

/-- The counter of the program's loop, as a number, and what it makes of it. -/
def kf (k : Nat) : Nat := floatOfInt .f64 (k : Int)
theorem kf_facts : ∀ k, k < 8 → fop .mul .f64 4611686018427387904 (kf (k + 1)) = kf (2 * (k + 1)) ∧ fop .add .f64 (kf (2 * (k + 1))) 4607182418800017408 = kf (2 * (k + 1) + 1) ∧ fop .mul .f64 (kf (2 * (k + 1))) (kf (2 * (k + 1) + 1)) = dens (k + 1) ∧
    fop .sub .f64 (kf (k + 1)) 4607182418800017408 = kf k ∧ nanB .f64 (kf k) = false ∧ nanB .f64 (kf (2 * (k + 1))) = false ∧ nanB .f64 (kf (2 * (k + 1) + 1)) = false ∧ nanB .f64 (dens (k + 1)) = false ∧
    (FloatKind.f64.format.order (kf (k + 1)) 4607182418800017408 == some .gt || FloatKind.f64.format.order (kf (k + 1)) 4607182418800017408 == some .eq) = true := by decide +kernel
theorem kf_zero : (FloatKind.f64.format.order (kf 0) 4607182418800017408 == some .gt || FloatKind.f64.format.order (kf 0) 4607182418800017408 == some .eq) = false := by decide +kernel
theorem kf_eight : kf 8 = 4620693217682128896 := by decide +kernel

set_option maxHeartbeats 1000000 in
theorem spec_sine_000 (y : Nat) (n : Int) (f0 f1 f2 f3 z u o : Nat)
    (hc : ∀ w, (convert 34 2 (.float .f64 y)).run Try.prog w = .ok (.int .i64 n) w)
    (hf0 : fop .sub .f64 y (floatOfInt .f64 n) = f0) (n0 : nanB .f64 0 = false) (nf0 : nanB .f64 f0 = false)
    (t1 : (FloatKind.f64.format.order f0 0 == some .lt) = false)
    (hf1 : f1 = f0)
    (t2 : (FloatKind.f64.format.order f1 4602678819172646912 == some .gt || FloatKind.f64.format.order f1 4602678819172646912 == some .eq) = false)
    (hf2 : f2 = f1)
    (t3 : (FloatKind.f64.format.order f2 4598175219545276416 == some .gt) = false)
    (hf3 : f3 = f2)
    (hz : fop .mul .f64 f3 4618760256179416344 = z) (nz : nanB .f64 z = false) (hu : fop .mul .f64 z z = u) (nu : nanB .f64 u = false) (bu : Hid (Bd 1035 u)) (ho : fop .mul .f64 z (ser u 8) = o) (no : nanB .f64 o = false)
    (hself : fop .sub .f64 y y = 0) (h00 : FloatKind.f64.format.order 0 0 = some .eq) (hb1 : (FloatKind.f64.format.order y 4841369599423283200 == some .gt || FloatKind.f64.format.order y 4841369599423283200 == some .eq) = false) (hb2 : (FloatKind.f64.format.order y 14064741636278059008 == some .lt || FloatKind.f64.format.order y 14064741636278059008 == some .eq) = false) (w : World) :
    Calls Try.prog 72 #[.float .f64 y] w fun e w' => e = .returned (.float .f64 (o)) ∧ w = w' := by
  subst hf1
  subst hf2
  subst hf3
  go_enter Try.func72, Try.ntmps72
  go_wp2_with (first | (refine wpList_fopE rfl rfl rfl rfl rfl (by simp only [*]) ?_))
  clear hc hf0 t1 t2 t3 hb1 hb2 hself h00
  go_loop [7, 8] (fun p k => ∃ i : Nat, i ≤ 8 ∧ k = .int .i64 (8 - i : Nat) ∧ p = .float .f64 (ser u i)) (fun _ k => (intOf k).toNat)
  case atStart => exact ⟨0, by omega, rfl, rfl⟩
  case round =>
    obtain ⟨i, hi, rfl, rfl⟩ := hrel
    by_cases hlt : i < 8
    · obtain ⟨s1, s2, s3⟩ := ser_nums bu.out hlt
      have e1 : fop .sub .f64 4607182418800017408 (fop .quo .f64 (fop .mul .f64 u (ser u i)) (dens (8 - i))) = ser u (i + 1) := rfl
      obtain ⟨k, hk⟩ : ∃ k, k = 8 - i := ⟨_, rfl⟩
      rw [← hk] at e1 s2 ⊢
      have Hk := Lib.hid hk
      clear hk
      have hk1 : 1 ≤ k := by have := Hk.out; omega
      have hk8 : k ≤ 8 := by have := Hk.out; omega
      have hd : (2 * (k : Int)) * (2 * (k : Int) + 1) = ((dq k : Nat) : Int) := by unfold dq; simp
      have hq : dq k ≤ 272 := by
        unfold dq
        have := Nat.mul_le_mul (show 2 * k ≤ 16 by omega) (show 2 * k + 1 ≤ 17 by omega)
        exact this
      have hdens : floatOfInt .f64 ((dq k : Nat) : Int) = dens k := rfl
      go_wp2_with (first | (refine wpList_fopE rfl rfl rfl rfl rfl (by simp only [*]) ?_))
      go_round
      case rel => exact ⟨i + 1, by omega, by have := Hk.out; first | (congr 1; omega) | go_num, rfl⟩
      case measure => simp [intOf]; omega
    · obtain rfl : i = 8 := by omega
      go_wp2_with (first | (refine wpList_fopE rfl rfl rfl rfl rfl (by simp only [*]) ?_))
      go_ret
      exact ⟨rfl, rfl⟩
set_option maxHeartbeats 1000000 in
theorem spec_sine_001 (y : Nat) (n : Int) (f0 f1 f2 f3 z u o : Nat)
    (hc : ∀ w, (convert 34 2 (.float .f64 y)).run Try.prog w = .ok (.int .i64 n) w)
    (hf0 : fop .sub .f64 y (floatOfInt .f64 n) = f0) (n0 : nanB .f64 0 = false) (nf0 : nanB .f64 f0 = false)
    (t1 : (FloatKind.f64.format.order f0 0 == some .lt) = false)
    (hf1 : f1 = f0)
    (t2 : (FloatKind.f64.format.order f1 4602678819172646912 == some .gt || FloatKind.f64.format.order f1 4602678819172646912 == some .eq) = false)
    (hf2 : f2 = f1)
    (t3 : (FloatKind.f64.format.order f2 4598175219545276416 == some .gt) = true)
    (hf3 : fop .sub .f64 4602678819172646912 f2 = f3) (nf3 : nanB .f64 f3 = false)
    (hz : fop .mul .f64 f3 4618760256179416344 = z) (nz : nanB .f64 z = false) (hu : fop .mul .f64 z z = u) (nu : nanB .f64 u = false) (bu : Hid (Bd 1035 u)) (ho : fop .mul .f64 z (ser u 8) = o) (no : nanB .f64 o = false)
    (hself : fop .sub .f64 y y = 0) (h00 : FloatKind.f64.format.order 0 0 = some .eq) (hb1 : (FloatKind.f64.format.order y 4841369599423283200 == some .gt || FloatKind.f64.format.order y 4841369599423283200 == some .eq) = false) (hb2 : (FloatKind.f64.format.order y 14064741636278059008 == some .lt || FloatKind.f64.format.order y 14064741636278059008 == some .eq) = false) (w : World) :
    Calls Try.prog 72 #[.float .f64 y] w fun e w' => e = .returned (.float .f64 (o)) ∧ w = w' := by
  subst hf1
  subst hf2
  go_enter Try.func72, Try.ntmps72
  go_wp2_with (first | (refine wpList_fopE rfl rfl rfl rfl rfl (by simp only [*]) ?_))
  clear hc hf0 t1 t2 t3 hb1 hb2 hself h00
  go_loop [7, 8] (fun p k => ∃ i : Nat, i ≤ 8 ∧ k = .int .i64 (8 - i : Nat) ∧ p = .float .f64 (ser u i)) (fun _ k => (intOf k).toNat)
  case atStart => exact ⟨0, by omega, rfl, rfl⟩
  case round =>
    obtain ⟨i, hi, rfl, rfl⟩ := hrel
    by_cases hlt : i < 8
    · obtain ⟨s1, s2, s3⟩ := ser_nums bu.out hlt
      have e1 : fop .sub .f64 4607182418800017408 (fop .quo .f64 (fop .mul .f64 u (ser u i)) (dens (8 - i))) = ser u (i + 1) := rfl
      obtain ⟨k, hk⟩ : ∃ k, k = 8 - i := ⟨_, rfl⟩
      rw [← hk] at e1 s2 ⊢
      have Hk := Lib.hid hk
      clear hk
      have hk1 : 1 ≤ k := by have := Hk.out; omega
      have hk8 : k ≤ 8 := by have := Hk.out; omega
      have hd : (2 * (k : Int)) * (2 * (k : Int) + 1) = ((dq k : Nat) : Int) := by unfold dq; simp
      have hq : dq k ≤ 272 := by
        unfold dq
        have := Nat.mul_le_mul (show 2 * k ≤ 16 by omega) (show 2 * k + 1 ≤ 17 by omega)
        exact this
      have hdens : floatOfInt .f64 ((dq k : Nat) : Int) = dens k := rfl
      go_wp2_with (first | (refine wpList_fopE rfl rfl rfl rfl rfl (by simp only [*]) ?_))
      go_round
      case rel => exact ⟨i + 1, by omega, by have := Hk.out; first | (congr 1; omega) | go_num, rfl⟩
      case measure => simp [intOf]; omega
    · obtain rfl : i = 8 := by omega
      go_wp2_with (first | (refine wpList_fopE rfl rfl rfl rfl rfl (by simp only [*]) ?_))
      go_ret
      exact ⟨rfl, rfl⟩
set_option maxHeartbeats 1000000 in
theorem spec_sine_010 (y : Nat) (n : Int) (f0 f1 f2 f3 z u o : Nat)
    (hc : ∀ w, (convert 34 2 (.float .f64 y)).run Try.prog w = .ok (.int .i64 n) w)
    (hf0 : fop .sub .f64 y (floatOfInt .f64 n) = f0) (n0 : nanB .f64 0 = false) (nf0 : nanB .f64 f0 = false)
    (t1 : (FloatKind.f64.format.order f0 0 == some .lt) = false)
    (hf1 : f1 = f0)
    (t2 : (FloatKind.f64.format.order f1 4602678819172646912 == some .gt || FloatKind.f64.format.order f1 4602678819172646912 == some .eq) = true)
    (hf2 : fop .sub .f64 f1 4602678819172646912 = f2) (nf2 : nanB .f64 f2 = false)
    (t3 : (FloatKind.f64.format.order f2 4598175219545276416 == some .gt) = false)
    (hf3 : f3 = f2)
    (hz : fop .mul .f64 f3 4618760256179416344 = z) (nz : nanB .f64 z = false) (hu : fop .mul .f64 z z = u) (nu : nanB .f64 u = false) (bu : Hid (Bd 1035 u)) (ho : fop .mul .f64 z (ser u 8) = o) (no : nanB .f64 o = false)
    (hself : fop .sub .f64 y y = 0) (h00 : FloatKind.f64.format.order 0 0 = some .eq) (hb1 : (FloatKind.f64.format.order y 4841369599423283200 == some .gt || FloatKind.f64.format.order y 4841369599423283200 == some .eq) = false) (hb2 : (FloatKind.f64.format.order y 14064741636278059008 == some .lt || FloatKind.f64.format.order y 14064741636278059008 == some .eq) = false) (w : World) :
    Calls Try.prog 72 #[.float .f64 y] w fun e w' => e = .returned (.float .f64 (Op.negFloat .f64 o)) ∧ w = w' := by
  subst hf1
  subst hf3
  go_enter Try.func72, Try.ntmps72
  go_wp2_with (first | (refine wpList_fopE rfl rfl rfl rfl rfl (by simp only [*]) ?_))
  clear hc hf0 t1 t2 t3 hb1 hb2 hself h00
  go_loop [7, 8] (fun p k => ∃ i : Nat, i ≤ 8 ∧ k = .int .i64 (8 - i : Nat) ∧ p = .float .f64 (ser u i)) (fun _ k => (intOf k).toNat)
  case atStart => exact ⟨0, by omega, rfl, rfl⟩
  case round =>
    obtain ⟨i, hi, rfl, rfl⟩ := hrel
    by_cases hlt : i < 8
    · obtain ⟨s1, s2, s3⟩ := ser_nums bu.out hlt
      have e1 : fop .sub .f64 4607182418800017408 (fop .quo .f64 (fop .mul .f64 u (ser u i)) (dens (8 - i))) = ser u (i + 1) := rfl
      obtain ⟨k, hk⟩ : ∃ k, k = 8 - i := ⟨_, rfl⟩
      rw [← hk] at e1 s2 ⊢
      have Hk := Lib.hid hk
      clear hk
      have hk1 : 1 ≤ k := by have := Hk.out; omega
      have hk8 : k ≤ 8 := by have := Hk.out; omega
      have hd : (2 * (k : Int)) * (2 * (k : Int) + 1) = ((dq k : Nat) : Int) := by unfold dq; simp
      have hq : dq k ≤ 272 := by
        unfold dq
        have := Nat.mul_le_mul (show 2 * k ≤ 16 by omega) (show 2 * k + 1 ≤ 17 by omega)
        exact this
      have hdens : floatOfInt .f64 ((dq k : Nat) : Int) = dens k := rfl
      go_wp2_with (first | (refine wpList_fopE rfl rfl rfl rfl rfl (by simp only [*]) ?_))
      go_round
      case rel => exact ⟨i + 1, by omega, by have := Hk.out; first | (congr 1; omega) | go_num, rfl⟩
      case measure => simp [intOf]; omega
    · obtain rfl : i = 8 := by omega
      go_wp2_with (first | (refine wpList_fopE rfl rfl rfl rfl rfl (by simp only [*]) ?_))
      go_ret
      exact ⟨rfl, rfl⟩
set_option maxHeartbeats 1000000 in
theorem spec_sine_011 (y : Nat) (n : Int) (f0 f1 f2 f3 z u o : Nat)
    (hc : ∀ w, (convert 34 2 (.float .f64 y)).run Try.prog w = .ok (.int .i64 n) w)
    (hf0 : fop .sub .f64 y (floatOfInt .f64 n) = f0) (n0 : nanB .f64 0 = false) (nf0 : nanB .f64 f0 = false)
    (t1 : (FloatKind.f64.format.order f0 0 == some .lt) = false)
    (hf1 : f1 = f0)
    (t2 : (FloatKind.f64.format.order f1 4602678819172646912 == some .gt || FloatKind.f64.format.order f1 4602678819172646912 == some .eq) = true)
    (hf2 : fop .sub .f64 f1 4602678819172646912 = f2) (nf2 : nanB .f64 f2 = false)
    (t3 : (FloatKind.f64.format.order f2 4598175219545276416 == some .gt) = true)
    (hf3 : fop .sub .f64 4602678819172646912 f2 = f3) (nf3 : nanB .f64 f3 = false)
    (hz : fop .mul .f64 f3 4618760256179416344 = z) (nz : nanB .f64 z = false) (hu : fop .mul .f64 z z = u) (nu : nanB .f64 u = false) (bu : Hid (Bd 1035 u)) (ho : fop .mul .f64 z (ser u 8) = o) (no : nanB .f64 o = false)
    (hself : fop .sub .f64 y y = 0) (h00 : FloatKind.f64.format.order 0 0 = some .eq) (hb1 : (FloatKind.f64.format.order y 4841369599423283200 == some .gt || FloatKind.f64.format.order y 4841369599423283200 == some .eq) = false) (hb2 : (FloatKind.f64.format.order y 14064741636278059008 == some .lt || FloatKind.f64.format.order y 14064741636278059008 == some .eq) = false) (w : World) :
    Calls Try.prog 72 #[.float .f64 y] w fun e w' => e = .returned (.float .f64 (Op.negFloat .f64 o)) ∧ w = w' := by
  subst hf1
  go_enter Try.func72, Try.ntmps72
  go_wp2_with (first | (refine wpList_fopE rfl rfl rfl rfl rfl (by simp only [*]) ?_))
  clear hc hf0 t1 t2 t3 hb1 hb2 hself h00
  go_loop [7, 8] (fun p k => ∃ i : Nat, i ≤ 8 ∧ k = .int .i64 (8 - i : Nat) ∧ p = .float .f64 (ser u i)) (fun _ k => (intOf k).toNat)
  case atStart => exact ⟨0, by omega, rfl, rfl⟩
  case round =>
    obtain ⟨i, hi, rfl, rfl⟩ := hrel
    by_cases hlt : i < 8
    · obtain ⟨s1, s2, s3⟩ := ser_nums bu.out hlt
      have e1 : fop .sub .f64 4607182418800017408 (fop .quo .f64 (fop .mul .f64 u (ser u i)) (dens (8 - i))) = ser u (i + 1) := rfl
      obtain ⟨k, hk⟩ : ∃ k, k = 8 - i := ⟨_, rfl⟩
      rw [← hk] at e1 s2 ⊢
      have Hk := Lib.hid hk
      clear hk
      have hk1 : 1 ≤ k := by have := Hk.out; omega
      have hk8 : k ≤ 8 := by have := Hk.out; omega
      have hd : (2 * (k : Int)) * (2 * (k : Int) + 1) = ((dq k : Nat) : Int) := by unfold dq; simp
      have hq : dq k ≤ 272 := by
        unfold dq
        have := Nat.mul_le_mul (show 2 * k ≤ 16 by omega) (show 2 * k + 1 ≤ 17 by omega)
        exact this
      have hdens : floatOfInt .f64 ((dq k : Nat) : Int) = dens k := rfl
      go_wp2_with (first | (refine wpList_fopE rfl rfl rfl rfl rfl (by simp only [*]) ?_))
      go_round
      case rel => exact ⟨i + 1, by omega, by have := Hk.out; first | (congr 1; omega) | go_num, rfl⟩
      case measure => simp [intOf]; omega
    · obtain rfl : i = 8 := by omega
      go_wp2_with (first | (refine wpList_fopE rfl rfl rfl rfl rfl (by simp only [*]) ?_))
      go_ret
      exact ⟨rfl, rfl⟩
set_option maxHeartbeats 1000000 in
theorem spec_sine_100 (y : Nat) (n : Int) (f0 f1 f2 f3 z u o : Nat)
    (hc : ∀ w, (convert 34 2 (.float .f64 y)).run Try.prog w = .ok (.int .i64 n) w)
    (hf0 : fop .sub .f64 y (floatOfInt .f64 n) = f0) (n0 : nanB .f64 0 = false) (nf0 : nanB .f64 f0 = false)
    (t1 : (FloatKind.f64.format.order f0 0 == some .lt) = true)
    (hf1 : fop .add .f64 f0 4607182418800017408 = f1) (nf1 : nanB .f64 f1 = false)
    (t2 : (FloatKind.f64.format.order f1 4602678819172646912 == some .gt || FloatKind.f64.format.order f1 4602678819172646912 == some .eq) = false)
    (hf2 : f2 = f1)
    (t3 : (FloatKind.f64.format.order f2 4598175219545276416 == some .gt) = false)
    (hf3 : f3 = f2)
    (hz : fop .mul .f64 f3 4618760256179416344 = z) (nz : nanB .f64 z = false) (hu : fop .mul .f64 z z = u) (nu : nanB .f64 u = false) (bu : Hid (Bd 1035 u)) (ho : fop .mul .f64 z (ser u 8) = o) (no : nanB .f64 o = false)
    (hself : fop .sub .f64 y y = 0) (h00 : FloatKind.f64.format.order 0 0 = some .eq) (hb1 : (FloatKind.f64.format.order y 4841369599423283200 == some .gt || FloatKind.f64.format.order y 4841369599423283200 == some .eq) = false) (hb2 : (FloatKind.f64.format.order y 14064741636278059008 == some .lt || FloatKind.f64.format.order y 14064741636278059008 == some .eq) = false) (w : World) :
    Calls Try.prog 72 #[.float .f64 y] w fun e w' => e = .returned (.float .f64 (o)) ∧ w = w' := by
  subst hf2
  subst hf3
  go_enter Try.func72, Try.ntmps72
  go_wp2_with (first | (refine wpList_fopE rfl rfl rfl rfl rfl (by simp only [*]) ?_))
  clear hc hf0 t1 t2 t3 hb1 hb2 hself h00
  go_loop [7, 8] (fun p k => ∃ i : Nat, i ≤ 8 ∧ k = .int .i64 (8 - i : Nat) ∧ p = .float .f64 (ser u i)) (fun _ k => (intOf k).toNat)
  case atStart => exact ⟨0, by omega, rfl, rfl⟩
  case round =>
    obtain ⟨i, hi, rfl, rfl⟩ := hrel
    by_cases hlt : i < 8
    · obtain ⟨s1, s2, s3⟩ := ser_nums bu.out hlt
      have e1 : fop .sub .f64 4607182418800017408 (fop .quo .f64 (fop .mul .f64 u (ser u i)) (dens (8 - i))) = ser u (i + 1) := rfl
      obtain ⟨k, hk⟩ : ∃ k, k = 8 - i := ⟨_, rfl⟩
      rw [← hk] at e1 s2 ⊢
      have Hk := Lib.hid hk
      clear hk
      have hk1 : 1 ≤ k := by have := Hk.out; omega
      have hk8 : k ≤ 8 := by have := Hk.out; omega
      have hd : (2 * (k : Int)) * (2 * (k : Int) + 1) = ((dq k : Nat) : Int) := by unfold dq; simp
      have hq : dq k ≤ 272 := by
        unfold dq
        have := Nat.mul_le_mul (show 2 * k ≤ 16 by omega) (show 2 * k + 1 ≤ 17 by omega)
        exact this
      have hdens : floatOfInt .f64 ((dq k : Nat) : Int) = dens k := rfl
      go_wp2_with (first | (refine wpList_fopE rfl rfl rfl rfl rfl (by simp only [*]) ?_))
      go_round
      case rel => exact ⟨i + 1, by omega, by have := Hk.out; first | (congr 1; omega) | go_num, rfl⟩
      case measure => simp [intOf]; omega
    · obtain rfl : i = 8 := by omega
      go_wp2_with (first | (refine wpList_fopE rfl rfl rfl rfl rfl (by simp only [*]) ?_))
      go_ret
      exact ⟨rfl, rfl⟩
set_option maxHeartbeats 1000000 in
theorem spec_sine_101 (y : Nat) (n : Int) (f0 f1 f2 f3 z u o : Nat)
    (hc : ∀ w, (convert 34 2 (.float .f64 y)).run Try.prog w = .ok (.int .i64 n) w)
    (hf0 : fop .sub .f64 y (floatOfInt .f64 n) = f0) (n0 : nanB .f64 0 = false) (nf0 : nanB .f64 f0 = false)
    (t1 : (FloatKind.f64.format.order f0 0 == some .lt) = true)
    (hf1 : fop .add .f64 f0 4607182418800017408 = f1) (nf1 : nanB .f64 f1 = false)
    (t2 : (FloatKind.f64.format.order f1 4602678819172646912 == some .gt || FloatKind.f64.format.order f1 4602678819172646912 == some .eq) = false)
    (hf2 : f2 = f1)
    (t3 : (FloatKind.f64.format.order f2 4598175219545276416 == some .gt) = true)
    (hf3 : fop .sub .f64 4602678819172646912 f2 = f3) (nf3 : nanB .f64 f3 = false)
    (hz : fop .mul .f64 f3 4618760256179416344 = z) (nz : nanB .f64 z = false) (hu : fop .mul .f64 z z = u) (nu : nanB .f64 u = false) (bu : Hid (Bd 1035 u)) (ho : fop .mul .f64 z (ser u 8) = o) (no : nanB .f64 o = false)
    (hself : fop .sub .f64 y y = 0) (h00 : FloatKind.f64.format.order 0 0 = some .eq) (hb1 : (FloatKind.f64.format.order y 4841369599423283200 == some .gt || FloatKind.f64.format.order y 4841369599423283200 == some .eq) = false) (hb2 : (FloatKind.f64.format.order y 14064741636278059008 == some .lt || FloatKind.f64.format.order y 14064741636278059008 == some .eq) = false) (w : World) :
    Calls Try.prog 72 #[.float .f64 y] w fun e w' => e = .returned (.float .f64 (o)) ∧ w = w' := by
  subst hf2
  go_enter Try.func72, Try.ntmps72
  go_wp2_with (first | (refine wpList_fopE rfl rfl rfl rfl rfl (by simp only [*]) ?_))
  clear hc hf0 t1 t2 t3 hb1 hb2 hself h00
  go_loop [7, 8] (fun p k => ∃ i : Nat, i ≤ 8 ∧ k = .int .i64 (8 - i : Nat) ∧ p = .float .f64 (ser u i)) (fun _ k => (intOf k).toNat)
  case atStart => exact ⟨0, by omega, rfl, rfl⟩
  case round =>
    obtain ⟨i, hi, rfl, rfl⟩ := hrel
    by_cases hlt : i < 8
    · obtain ⟨s1, s2, s3⟩ := ser_nums bu.out hlt
      have e1 : fop .sub .f64 4607182418800017408 (fop .quo .f64 (fop .mul .f64 u (ser u i)) (dens (8 - i))) = ser u (i + 1) := rfl
      obtain ⟨k, hk⟩ : ∃ k, k = 8 - i := ⟨_, rfl⟩
      rw [← hk] at e1 s2 ⊢
      have Hk := Lib.hid hk
      clear hk
      have hk1 : 1 ≤ k := by have := Hk.out; omega
      have hk8 : k ≤ 8 := by have := Hk.out; omega
      have hd : (2 * (k : Int)) * (2 * (k : Int) + 1) = ((dq k : Nat) : Int) := by unfold dq; simp
      have hq : dq k ≤ 272 := by
        unfold dq
        have := Nat.mul_le_mul (show 2 * k ≤ 16 by omega) (show 2 * k + 1 ≤ 17 by omega)
        exact this
      have hdens : floatOfInt .f64 ((dq k : Nat) : Int) = dens k := rfl
      go_wp2_with (first | (refine wpList_fopE rfl rfl rfl rfl rfl (by simp only [*]) ?_))
      go_round
      case rel => exact ⟨i + 1, by omega, by have := Hk.out; first | (congr 1; omega) | go_num, rfl⟩
      case measure => simp [intOf]; omega
    · obtain rfl : i = 8 := by omega
      go_wp2_with (first | (refine wpList_fopE rfl rfl rfl rfl rfl (by simp only [*]) ?_))
      go_ret
      exact ⟨rfl, rfl⟩
set_option maxHeartbeats 1000000 in
theorem spec_sine_110 (y : Nat) (n : Int) (f0 f1 f2 f3 z u o : Nat)
    (hc : ∀ w, (convert 34 2 (.float .f64 y)).run Try.prog w = .ok (.int .i64 n) w)
    (hf0 : fop .sub .f64 y (floatOfInt .f64 n) = f0) (n0 : nanB .f64 0 = false) (nf0 : nanB .f64 f0 = false)
    (t1 : (FloatKind.f64.format.order f0 0 == some .lt) = true)
    (hf1 : fop .add .f64 f0 4607182418800017408 = f1) (nf1 : nanB .f64 f1 = false)
    (t2 : (FloatKind.f64.format.order f1 4602678819172646912 == some .gt || FloatKind.f64.format.order f1 4602678819172646912 == some .eq) = true)
    (hf2 : fop .sub .f64 f1 4602678819172646912 = f2) (nf2 : nanB .f64 f2 = false)
    (t3 : (FloatKind.f64.format.order f2 4598175219545276416 == some .gt) = false)
    (hf3 : f3 = f2)
    (hz : fop .mul .f64 f3 4618760256179416344 = z) (nz : nanB .f64 z = false) (hu : fop .mul .f64 z z = u) (nu : nanB .f64 u = false) (bu : Hid (Bd 1035 u)) (ho : fop .mul .f64 z (ser u 8) = o) (no : nanB .f64 o = false)
    (hself : fop .sub .f64 y y = 0) (h00 : FloatKind.f64.format.order 0 0 = some .eq) (hb1 : (FloatKind.f64.format.order y 4841369599423283200 == some .gt || FloatKind.f64.format.order y 4841369599423283200 == some .eq) = false) (hb2 : (FloatKind.f64.format.order y 14064741636278059008 == some .lt || FloatKind.f64.format.order y 14064741636278059008 == some .eq) = false) (w : World) :
    Calls Try.prog 72 #[.float .f64 y] w fun e w' => e = .returned (.float .f64 (Op.negFloat .f64 o)) ∧ w = w' := by
  subst hf3
  go_enter Try.func72, Try.ntmps72
  go_wp2_with (first | (refine wpList_fopE rfl rfl rfl rfl rfl (by simp only [*]) ?_))
  clear hc hf0 t1 t2 t3 hb1 hb2 hself h00
  go_loop [7, 8] (fun p k => ∃ i : Nat, i ≤ 8 ∧ k = .int .i64 (8 - i : Nat) ∧ p = .float .f64 (ser u i)) (fun _ k => (intOf k).toNat)
  case atStart => exact ⟨0, by omega, rfl, rfl⟩
  case round =>
    obtain ⟨i, hi, rfl, rfl⟩ := hrel
    by_cases hlt : i < 8
    · obtain ⟨s1, s2, s3⟩ := ser_nums bu.out hlt
      have e1 : fop .sub .f64 4607182418800017408 (fop .quo .f64 (fop .mul .f64 u (ser u i)) (dens (8 - i))) = ser u (i + 1) := rfl
      obtain ⟨k, hk⟩ : ∃ k, k = 8 - i := ⟨_, rfl⟩
      rw [← hk] at e1 s2 ⊢
      have Hk := Lib.hid hk
      clear hk
      have hk1 : 1 ≤ k := by have := Hk.out; omega
      have hk8 : k ≤ 8 := by have := Hk.out; omega
      have hd : (2 * (k : Int)) * (2 * (k : Int) + 1) = ((dq k : Nat) : Int) := by unfold dq; simp
      have hq : dq k ≤ 272 := by
        unfold dq
        have := Nat.mul_le_mul (show 2 * k ≤ 16 by omega) (show 2 * k + 1 ≤ 17 by omega)
        exact this
      have hdens : floatOfInt .f64 ((dq k : Nat) : Int) = dens k := rfl
      go_wp2_with (first | (refine wpList_fopE rfl rfl rfl rfl rfl (by simp only [*]) ?_))
      go_round
      case rel => exact ⟨i + 1, by omega, by have := Hk.out; first | (congr 1; omega) | go_num, rfl⟩
      case measure => simp [intOf]; omega
    · obtain rfl : i = 8 := by omega
      go_wp2_with (first | (refine wpList_fopE rfl rfl rfl rfl rfl (by simp only [*]) ?_))
      go_ret
      exact ⟨rfl, rfl⟩
set_option maxHeartbeats 1000000 in
theorem spec_sine_111 (y : Nat) (n : Int) (f0 f1 f2 f3 z u o : Nat)
    (hc : ∀ w, (convert 34 2 (.float .f64 y)).run Try.prog w = .ok (.int .i64 n) w)
    (hf0 : fop .sub .f64 y (floatOfInt .f64 n) = f0) (n0 : nanB .f64 0 = false) (nf0 : nanB .f64 f0 = false)
    (t1 : (FloatKind.f64.format.order f0 0 == some .lt) = true)
    (hf1 : fop .add .f64 f0 4607182418800017408 = f1) (nf1 : nanB .f64 f1 = false)
    (t2 : (FloatKind.f64.format.order f1 4602678819172646912 == some .gt || FloatKind.f64.format.order f1 4602678819172646912 == some .eq) = true)
    (hf2 : fop .sub .f64 f1 4602678819172646912 = f2) (nf2 : nanB .f64 f2 = false)
    (t3 : (FloatKind.f64.format.order f2 4598175219545276416 == some .gt) = true)
    (hf3 : fop .sub .f64 4602678819172646912 f2 = f3) (nf3 : nanB .f64 f3 = false)
    (hz : fop .mul .f64 f3 4618760256179416344 = z) (nz : nanB .f64 z = false) (hu : fop .mul .f64 z z = u) (nu : nanB .f64 u = false) (bu : Hid (Bd 1035 u)) (ho : fop .mul .f64 z (ser u 8) = o) (no : nanB .f64 o = false)
    (hself : fop .sub .f64 y y = 0) (h00 : FloatKind.f64.format.order 0 0 = some .eq) (hb1 : (FloatKind.f64.format.order y 4841369599423283200 == some .gt || FloatKind.f64.format.order y 4841369599423283200 == some .eq) = false) (hb2 : (FloatKind.f64.format.order y 14064741636278059008 == some .lt || FloatKind.f64.format.order y 14064741636278059008 == some .eq) = false) (w : World) :
    Calls Try.prog 72 #[.float .f64 y] w fun e w' => e = .returned (.float .f64 (Op.negFloat .f64 o)) ∧ w = w' := by
  go_enter Try.func72, Try.ntmps72
  go_wp2_with (first | (refine wpList_fopE rfl rfl rfl rfl rfl (by simp only [*]) ?_))
  clear hc hf0 t1 t2 t3 hb1 hb2 hself h00
  go_loop [7, 8] (fun p k => ∃ i : Nat, i ≤ 8 ∧ k = .int .i64 (8 - i : Nat) ∧ p = .float .f64 (ser u i)) (fun _ k => (intOf k).toNat)
  case atStart => exact ⟨0, by omega, rfl, rfl⟩
  case round =>
    obtain ⟨i, hi, rfl, rfl⟩ := hrel
    by_cases hlt : i < 8
    · obtain ⟨s1, s2, s3⟩ := ser_nums bu.out hlt
      have e1 : fop .sub .f64 4607182418800017408 (fop .quo .f64 (fop .mul .f64 u (ser u i)) (dens (8 - i))) = ser u (i + 1) := rfl
      obtain ⟨k, hk⟩ : ∃ k, k = 8 - i := ⟨_, rfl⟩
      rw [← hk] at e1 s2 ⊢
      have Hk := Lib.hid hk
      clear hk
      have hk1 : 1 ≤ k := by have := Hk.out; omega
      have hk8 : k ≤ 8 := by have := Hk.out; omega
      have hd : (2 * (k : Int)) * (2 * (k : Int) + 1) = ((dq k : Nat) : Int) := by unfold dq; simp
      have hq : dq k ≤ 272 := by
        unfold dq
        have := Nat.mul_le_mul (show 2 * k ≤ 16 by omega) (show 2 * k + 1 ≤ 17 by omega)
        exact this
      have hdens : floatOfInt .f64 ((dq k : Nat) : Int) = dens k := rfl
      go_wp2_with (first | (refine wpList_fopE rfl rfl rfl rfl rfl (by simp only [*]) ?_))
      go_round
      case rel => exact ⟨i + 1, by omega, by have := Hk.out; first | (congr 1; omega) | go_num, rfl⟩
      case measure => simp [intOf]; omega
    · obtain rfl : i = 8 := by omega
      go_wp2_with (first | (refine wpList_fopE rfl rfl rfl rfl rfl (by simp only [*]) ?_))
      go_ret
      exact ⟨rfl, rfl⟩
end Go.Proofs.Ytlampebmbpdloaa
