/- Contracts of SineTurns: the program's walks. Conditions: as each says. -/
import Derived.Test.YtcmmafkmfahijaaSine
namespace Go.Proofs.Ytcmmafkmfahijaa
open Go.RowKit
open Ieee (single double)

/-- The rounds that the program's loop still has. -/
def meas : Value → Nat
  | .float _ b => (if b = kf 8 then 8 else if b = kf 7 then 7 else if b = kf 6 then 6 else if b = kf 5 then 5 else if b = kf 4 then 4 else if b = kf 3 then 3 else if b = kf 2 then 2 else if b = kf 1 then 1 else 0)
  | _ => 0
theorem kf_less : ∀ k, k < 8 → meas (.float .f64 (kf k)) < meas (.float .f64 (kf (k + 1))) := by decide +kernel

set_option maxHeartbeats 1000000 in
theorem impl_sine_000 (x y : Nat) (n : Int) (f0 f1 f2 f3 z u o : Nat) (hfin : finB x = true) (c1 : ∀ w, cval .f32 x .f64 w = y) (c2 : ccnt .f32 x .f64 = 0) (hy64 : y < 18446744073709551616)
    (hc : ∀ w, (convert 28 2 (.float .f64 y)).run Try.prog w = .ok (.int .i64 n) w)
    (hf0 : fop .sub .f64 y (floatOfInt .f64 n) = f0) (_n0 : nanB .f64 0 = false) (nf0 : nanB .f64 f0 = false)
    (t1 : (FloatKind.f64.format.order f0 0 == some .lt) = false)
    (hf1 : f1 = f0)
    (t2 : (FloatKind.f64.format.order f1 4602678819172646912 == some .gt || FloatKind.f64.format.order f1 4602678819172646912 == some .eq) = false)
    (hf2 : f2 = f1)
    (t3 : (FloatKind.f64.format.order f2 4598175219545276416 == some .gt) = false)
    (hf3 : f3 = f2)
    (hz : fop .mul .f64 f3 4618760256179416344 = z) (nz : nanB .f64 z = false) (hu : fop .mul .f64 z z = u) (nu : nanB .f64 u = false) (bu : Hid (Bd 1035 u)) (ho : fop .mul .f64 z (ser u 8) = o) (no : nanB .f64 o = false)
    (hb : (FloatKind.f64.format.order (rungAt double y) 4841369599423283200 == some .gt || FloatKind.f64.format.order (rungAt double y) 4841369599423283200 == some .eq) = false) (w : World) :
    Calls Try.prog 43 #[.float .f32 x] w fun e w' => ∃ r n, e = .returned (.float .f32 r) ∧ Narrow (o) r ∧ w' = w.drewN n := by
  subst hf1
  subst hf2
  subst hf3
  go_enter Try.func43, Try.ntmps43
  go_wp2_with (first | (refine wpList_fopE rfl rfl rfl rfl rfl (by simp only [*]) ?_) | (go_at_call 35; refine (impl_IsFinite _ _).mono ?_; rintro e w' ⟨rfl, nn, rfl⟩) | (go_at_call 64; refine (math_Abs _ hy64 _).mono ?_; rintro e w' ⟨rfl, rfl⟩))
  clear hc hf0 t1 t3 hb c1 c2 hfin hy64
  go_loop [8, 9] (fun p k => ∃ i : Nat, i ≤ 8 ∧ k = .float .f64 (kf (8 - i)) ∧ p = .float .f64 (ser u i)) (fun _ k => meas k)
  case atStart => exact ⟨0, by omega, by rw [kf_eight], rfl⟩
  case round =>
    obtain ⟨i, hi, rfl, rfl⟩ := hrel
    by_cases hlt : i < 8
    · obtain ⟨s1, s2, s3⟩ := ser_nums bu.out hlt
      have e1 : fop .sub .f64 4607182418800017408 (fop .quo .f64 (fop .mul .f64 u (ser u i)) (dens (8 - i))) = ser u (i + 1) := rfl
      obtain ⟨k, hk⟩ : ∃ k, 8 - i = k + 1 := ⟨7 - i, by omega⟩
      rw [hk] at e1 s2 ⊢
      have Hk := Lib.hid hk
      clear hk
      have hk8 : k < 8 := by have := Hk.out; omega
      obtain ⟨g1, g2, g3, g4, g5, g6, g7, g8, g9⟩ := kf_facts k hk8
      go_wp2_with (first | (refine wpList_fopE rfl rfl rfl rfl rfl (by simp only [*]) ?_))
      go_round
      case rel => exact ⟨i + 1, by omega, by have := Hk.out; first | (congr 2; omega) | go_num, rfl⟩
      case measure => exact kf_less k hk8
    · obtain rfl : i = 8 := by omega
      have g9 := kf_zero
      go_wp2_with (first | (refine wpList_fopE rfl rfl rfl rfl rfl (by simp only [*]) ?_) | (refine wpList_narrow some64 Try.underlying23 rfl rfl rfl ?_; intro _ _ _))
      go_ret
      exact ⟨_, rfl, by assumption, _, rfl⟩
set_option maxHeartbeats 1000000 in
theorem impl_sine_001 (x y : Nat) (n : Int) (f0 f1 f2 f3 z u o : Nat) (hfin : finB x = true) (c1 : ∀ w, cval .f32 x .f64 w = y) (c2 : ccnt .f32 x .f64 = 0) (hy64 : y < 18446744073709551616)
    (hc : ∀ w, (convert 28 2 (.float .f64 y)).run Try.prog w = .ok (.int .i64 n) w)
    (hf0 : fop .sub .f64 y (floatOfInt .f64 n) = f0) (_n0 : nanB .f64 0 = false) (nf0 : nanB .f64 f0 = false)
    (t1 : (FloatKind.f64.format.order f0 0 == some .lt) = false)
    (hf1 : f1 = f0)
    (t2 : (FloatKind.f64.format.order f1 4602678819172646912 == some .gt || FloatKind.f64.format.order f1 4602678819172646912 == some .eq) = false)
    (hf2 : f2 = f1)
    (t3 : (FloatKind.f64.format.order f2 4598175219545276416 == some .gt) = true)
    (hf3 : fop .sub .f64 4602678819172646912 f2 = f3) (nf3 : nanB .f64 f3 = false)
    (hz : fop .mul .f64 f3 4618760256179416344 = z) (nz : nanB .f64 z = false) (hu : fop .mul .f64 z z = u) (nu : nanB .f64 u = false) (bu : Hid (Bd 1035 u)) (ho : fop .mul .f64 z (ser u 8) = o) (no : nanB .f64 o = false)
    (hb : (FloatKind.f64.format.order (rungAt double y) 4841369599423283200 == some .gt || FloatKind.f64.format.order (rungAt double y) 4841369599423283200 == some .eq) = false) (w : World) :
    Calls Try.prog 43 #[.float .f32 x] w fun e w' => ∃ r n, e = .returned (.float .f32 r) ∧ Narrow (o) r ∧ w' = w.drewN n := by
  subst hf1
  subst hf2
  go_enter Try.func43, Try.ntmps43
  go_wp2_with (first | (refine wpList_fopE rfl rfl rfl rfl rfl (by simp only [*]) ?_) | (go_at_call 35; refine (impl_IsFinite _ _).mono ?_; rintro e w' ⟨rfl, nn, rfl⟩) | (go_at_call 64; refine (math_Abs _ hy64 _).mono ?_; rintro e w' ⟨rfl, rfl⟩))
  clear hc hf0 t1 t3 hb c1 c2 hfin hy64
  go_loop [8, 9] (fun p k => ∃ i : Nat, i ≤ 8 ∧ k = .float .f64 (kf (8 - i)) ∧ p = .float .f64 (ser u i)) (fun _ k => meas k)
  case atStart => exact ⟨0, by omega, by rw [kf_eight], rfl⟩
  case round =>
    obtain ⟨i, hi, rfl, rfl⟩ := hrel
    by_cases hlt : i < 8
    · obtain ⟨s1, s2, s3⟩ := ser_nums bu.out hlt
      have e1 : fop .sub .f64 4607182418800017408 (fop .quo .f64 (fop .mul .f64 u (ser u i)) (dens (8 - i))) = ser u (i + 1) := rfl
      obtain ⟨k, hk⟩ : ∃ k, 8 - i = k + 1 := ⟨7 - i, by omega⟩
      rw [hk] at e1 s2 ⊢
      have Hk := Lib.hid hk
      clear hk
      have hk8 : k < 8 := by have := Hk.out; omega
      obtain ⟨g1, g2, g3, g4, g5, g6, g7, g8, g9⟩ := kf_facts k hk8
      go_wp2_with (first | (refine wpList_fopE rfl rfl rfl rfl rfl (by simp only [*]) ?_))
      go_round
      case rel => exact ⟨i + 1, by omega, by have := Hk.out; first | (congr 2; omega) | go_num, rfl⟩
      case measure => exact kf_less k hk8
    · obtain rfl : i = 8 := by omega
      have g9 := kf_zero
      go_wp2_with (first | (refine wpList_fopE rfl rfl rfl rfl rfl (by simp only [*]) ?_) | (refine wpList_narrow some64 Try.underlying23 rfl rfl rfl ?_; intro _ _ _))
      go_ret
      exact ⟨_, rfl, by assumption, _, rfl⟩
set_option maxHeartbeats 1000000 in
theorem impl_sine_010 (x y : Nat) (n : Int) (f0 f1 f2 f3 z u o : Nat) (hfin : finB x = true) (c1 : ∀ w, cval .f32 x .f64 w = y) (c2 : ccnt .f32 x .f64 = 0) (hy64 : y < 18446744073709551616)
    (hc : ∀ w, (convert 28 2 (.float .f64 y)).run Try.prog w = .ok (.int .i64 n) w)
    (hf0 : fop .sub .f64 y (floatOfInt .f64 n) = f0) (_n0 : nanB .f64 0 = false) (nf0 : nanB .f64 f0 = false)
    (t1 : (FloatKind.f64.format.order f0 0 == some .lt) = false)
    (hf1 : f1 = f0)
    (t2 : (FloatKind.f64.format.order f1 4602678819172646912 == some .gt || FloatKind.f64.format.order f1 4602678819172646912 == some .eq) = true)
    (hf2 : fop .sub .f64 f1 4602678819172646912 = f2) (nf2 : nanB .f64 f2 = false)
    (t3 : (FloatKind.f64.format.order f2 4598175219545276416 == some .gt) = false)
    (hf3 : f3 = f2)
    (hz : fop .mul .f64 f3 4618760256179416344 = z) (nz : nanB .f64 z = false) (hu : fop .mul .f64 z z = u) (nu : nanB .f64 u = false) (bu : Hid (Bd 1035 u)) (ho : fop .mul .f64 z (ser u 8) = o) (no : nanB .f64 o = false)
    (hb : (FloatKind.f64.format.order (rungAt double y) 4841369599423283200 == some .gt || FloatKind.f64.format.order (rungAt double y) 4841369599423283200 == some .eq) = false) (w : World) :
    Calls Try.prog 43 #[.float .f32 x] w fun e w' => ∃ r n, e = .returned (.float .f32 r) ∧ Narrow (Op.negFloat .f64 o) r ∧ w' = w.drewN n := by
  subst hf1
  subst hf3
  go_enter Try.func43, Try.ntmps43
  go_wp2_with (first | (refine wpList_fopE rfl rfl rfl rfl rfl (by simp only [*]) ?_) | (go_at_call 35; refine (impl_IsFinite _ _).mono ?_; rintro e w' ⟨rfl, nn, rfl⟩) | (go_at_call 64; refine (math_Abs _ hy64 _).mono ?_; rintro e w' ⟨rfl, rfl⟩))
  clear hc hf0 t1 t3 hb c1 c2 hfin hy64
  go_loop [8, 9] (fun p k => ∃ i : Nat, i ≤ 8 ∧ k = .float .f64 (kf (8 - i)) ∧ p = .float .f64 (ser u i)) (fun _ k => meas k)
  case atStart => exact ⟨0, by omega, by rw [kf_eight], rfl⟩
  case round =>
    obtain ⟨i, hi, rfl, rfl⟩ := hrel
    by_cases hlt : i < 8
    · obtain ⟨s1, s2, s3⟩ := ser_nums bu.out hlt
      have e1 : fop .sub .f64 4607182418800017408 (fop .quo .f64 (fop .mul .f64 u (ser u i)) (dens (8 - i))) = ser u (i + 1) := rfl
      obtain ⟨k, hk⟩ : ∃ k, 8 - i = k + 1 := ⟨7 - i, by omega⟩
      rw [hk] at e1 s2 ⊢
      have Hk := Lib.hid hk
      clear hk
      have hk8 : k < 8 := by have := Hk.out; omega
      obtain ⟨g1, g2, g3, g4, g5, g6, g7, g8, g9⟩ := kf_facts k hk8
      go_wp2_with (first | (refine wpList_fopE rfl rfl rfl rfl rfl (by simp only [*]) ?_))
      go_round
      case rel => exact ⟨i + 1, by omega, by have := Hk.out; first | (congr 2; omega) | go_num, rfl⟩
      case measure => exact kf_less k hk8
    · obtain rfl : i = 8 := by omega
      have g9 := kf_zero
      go_wp2_with (first | (refine wpList_fopE rfl rfl rfl rfl rfl (by simp only [*]) ?_) | (refine wpList_narrow some64 Try.underlying23 rfl rfl rfl ?_; intro _ _ _))
      go_ret
      exact ⟨_, rfl, by assumption, _, rfl⟩
set_option maxHeartbeats 1000000 in
theorem impl_sine_011 (x y : Nat) (n : Int) (f0 f1 f2 f3 z u o : Nat) (hfin : finB x = true) (c1 : ∀ w, cval .f32 x .f64 w = y) (c2 : ccnt .f32 x .f64 = 0) (hy64 : y < 18446744073709551616)
    (hc : ∀ w, (convert 28 2 (.float .f64 y)).run Try.prog w = .ok (.int .i64 n) w)
    (hf0 : fop .sub .f64 y (floatOfInt .f64 n) = f0) (_n0 : nanB .f64 0 = false) (nf0 : nanB .f64 f0 = false)
    (t1 : (FloatKind.f64.format.order f0 0 == some .lt) = false)
    (hf1 : f1 = f0)
    (t2 : (FloatKind.f64.format.order f1 4602678819172646912 == some .gt || FloatKind.f64.format.order f1 4602678819172646912 == some .eq) = true)
    (hf2 : fop .sub .f64 f1 4602678819172646912 = f2) (nf2 : nanB .f64 f2 = false)
    (t3 : (FloatKind.f64.format.order f2 4598175219545276416 == some .gt) = true)
    (hf3 : fop .sub .f64 4602678819172646912 f2 = f3) (nf3 : nanB .f64 f3 = false)
    (hz : fop .mul .f64 f3 4618760256179416344 = z) (nz : nanB .f64 z = false) (hu : fop .mul .f64 z z = u) (nu : nanB .f64 u = false) (bu : Hid (Bd 1035 u)) (ho : fop .mul .f64 z (ser u 8) = o) (no : nanB .f64 o = false)
    (hb : (FloatKind.f64.format.order (rungAt double y) 4841369599423283200 == some .gt || FloatKind.f64.format.order (rungAt double y) 4841369599423283200 == some .eq) = false) (w : World) :
    Calls Try.prog 43 #[.float .f32 x] w fun e w' => ∃ r n, e = .returned (.float .f32 r) ∧ Narrow (Op.negFloat .f64 o) r ∧ w' = w.drewN n := by
  subst hf1
  go_enter Try.func43, Try.ntmps43
  go_wp2_with (first | (refine wpList_fopE rfl rfl rfl rfl rfl (by simp only [*]) ?_) | (go_at_call 35; refine (impl_IsFinite _ _).mono ?_; rintro e w' ⟨rfl, nn, rfl⟩) | (go_at_call 64; refine (math_Abs _ hy64 _).mono ?_; rintro e w' ⟨rfl, rfl⟩))
  clear hc hf0 t1 t3 hb c1 c2 hfin hy64
  go_loop [8, 9] (fun p k => ∃ i : Nat, i ≤ 8 ∧ k = .float .f64 (kf (8 - i)) ∧ p = .float .f64 (ser u i)) (fun _ k => meas k)
  case atStart => exact ⟨0, by omega, by rw [kf_eight], rfl⟩
  case round =>
    obtain ⟨i, hi, rfl, rfl⟩ := hrel
    by_cases hlt : i < 8
    · obtain ⟨s1, s2, s3⟩ := ser_nums bu.out hlt
      have e1 : fop .sub .f64 4607182418800017408 (fop .quo .f64 (fop .mul .f64 u (ser u i)) (dens (8 - i))) = ser u (i + 1) := rfl
      obtain ⟨k, hk⟩ : ∃ k, 8 - i = k + 1 := ⟨7 - i, by omega⟩
      rw [hk] at e1 s2 ⊢
      have Hk := Lib.hid hk
      clear hk
      have hk8 : k < 8 := by have := Hk.out; omega
      obtain ⟨g1, g2, g3, g4, g5, g6, g7, g8, g9⟩ := kf_facts k hk8
      go_wp2_with (first | (refine wpList_fopE rfl rfl rfl rfl rfl (by simp only [*]) ?_))
      go_round
      case rel => exact ⟨i + 1, by omega, by have := Hk.out; first | (congr 2; omega) | go_num, rfl⟩
      case measure => exact kf_less k hk8
    · obtain rfl : i = 8 := by omega
      have g9 := kf_zero
      go_wp2_with (first | (refine wpList_fopE rfl rfl rfl rfl rfl (by simp only [*]) ?_) | (refine wpList_narrow some64 Try.underlying23 rfl rfl rfl ?_; intro _ _ _))
      go_ret
      exact ⟨_, rfl, by assumption, _, rfl⟩
set_option maxHeartbeats 1000000 in
theorem impl_sine_100 (x y : Nat) (n : Int) (f0 f1 f2 f3 z u o : Nat) (hfin : finB x = true) (c1 : ∀ w, cval .f32 x .f64 w = y) (c2 : ccnt .f32 x .f64 = 0) (hy64 : y < 18446744073709551616)
    (hc : ∀ w, (convert 28 2 (.float .f64 y)).run Try.prog w = .ok (.int .i64 n) w)
    (hf0 : fop .sub .f64 y (floatOfInt .f64 n) = f0) (_n0 : nanB .f64 0 = false) (nf0 : nanB .f64 f0 = false)
    (t1 : (FloatKind.f64.format.order f0 0 == some .lt) = true)
    (hf1 : fop .add .f64 f0 4607182418800017408 = f1) (nf1 : nanB .f64 f1 = false)
    (t2 : (FloatKind.f64.format.order f1 4602678819172646912 == some .gt || FloatKind.f64.format.order f1 4602678819172646912 == some .eq) = false)
    (hf2 : f2 = f1)
    (t3 : (FloatKind.f64.format.order f2 4598175219545276416 == some .gt) = false)
    (hf3 : f3 = f2)
    (hz : fop .mul .f64 f3 4618760256179416344 = z) (nz : nanB .f64 z = false) (hu : fop .mul .f64 z z = u) (nu : nanB .f64 u = false) (bu : Hid (Bd 1035 u)) (ho : fop .mul .f64 z (ser u 8) = o) (no : nanB .f64 o = false)
    (hb : (FloatKind.f64.format.order (rungAt double y) 4841369599423283200 == some .gt || FloatKind.f64.format.order (rungAt double y) 4841369599423283200 == some .eq) = false) (w : World) :
    Calls Try.prog 43 #[.float .f32 x] w fun e w' => ∃ r n, e = .returned (.float .f32 r) ∧ Narrow (o) r ∧ w' = w.drewN n := by
  subst hf2
  subst hf3
  go_enter Try.func43, Try.ntmps43
  go_wp2_with (first | (refine wpList_fopE rfl rfl rfl rfl rfl (by simp only [*]) ?_) | (go_at_call 35; refine (impl_IsFinite _ _).mono ?_; rintro e w' ⟨rfl, nn, rfl⟩) | (go_at_call 64; refine (math_Abs _ hy64 _).mono ?_; rintro e w' ⟨rfl, rfl⟩))
  clear hc hf0 t1 t3 hb c1 c2 hfin hy64
  go_loop [8, 9] (fun p k => ∃ i : Nat, i ≤ 8 ∧ k = .float .f64 (kf (8 - i)) ∧ p = .float .f64 (ser u i)) (fun _ k => meas k)
  case atStart => exact ⟨0, by omega, by rw [kf_eight], rfl⟩
  case round =>
    obtain ⟨i, hi, rfl, rfl⟩ := hrel
    by_cases hlt : i < 8
    · obtain ⟨s1, s2, s3⟩ := ser_nums bu.out hlt
      have e1 : fop .sub .f64 4607182418800017408 (fop .quo .f64 (fop .mul .f64 u (ser u i)) (dens (8 - i))) = ser u (i + 1) := rfl
      obtain ⟨k, hk⟩ : ∃ k, 8 - i = k + 1 := ⟨7 - i, by omega⟩
      rw [hk] at e1 s2 ⊢
      have Hk := Lib.hid hk
      clear hk
      have hk8 : k < 8 := by have := Hk.out; omega
      obtain ⟨g1, g2, g3, g4, g5, g6, g7, g8, g9⟩ := kf_facts k hk8
      go_wp2_with (first | (refine wpList_fopE rfl rfl rfl rfl rfl (by simp only [*]) ?_))
      go_round
      case rel => exact ⟨i + 1, by omega, by have := Hk.out; first | (congr 2; omega) | go_num, rfl⟩
      case measure => exact kf_less k hk8
    · obtain rfl : i = 8 := by omega
      have g9 := kf_zero
      go_wp2_with (first | (refine wpList_fopE rfl rfl rfl rfl rfl (by simp only [*]) ?_) | (refine wpList_narrow some64 Try.underlying23 rfl rfl rfl ?_; intro _ _ _))
      go_ret
      exact ⟨_, rfl, by assumption, _, rfl⟩
set_option maxHeartbeats 1000000 in
theorem impl_sine_101 (x y : Nat) (n : Int) (f0 f1 f2 f3 z u o : Nat) (hfin : finB x = true) (c1 : ∀ w, cval .f32 x .f64 w = y) (c2 : ccnt .f32 x .f64 = 0) (hy64 : y < 18446744073709551616)
    (hc : ∀ w, (convert 28 2 (.float .f64 y)).run Try.prog w = .ok (.int .i64 n) w)
    (hf0 : fop .sub .f64 y (floatOfInt .f64 n) = f0) (_n0 : nanB .f64 0 = false) (nf0 : nanB .f64 f0 = false)
    (t1 : (FloatKind.f64.format.order f0 0 == some .lt) = true)
    (hf1 : fop .add .f64 f0 4607182418800017408 = f1) (nf1 : nanB .f64 f1 = false)
    (t2 : (FloatKind.f64.format.order f1 4602678819172646912 == some .gt || FloatKind.f64.format.order f1 4602678819172646912 == some .eq) = false)
    (hf2 : f2 = f1)
    (t3 : (FloatKind.f64.format.order f2 4598175219545276416 == some .gt) = true)
    (hf3 : fop .sub .f64 4602678819172646912 f2 = f3) (nf3 : nanB .f64 f3 = false)
    (hz : fop .mul .f64 f3 4618760256179416344 = z) (nz : nanB .f64 z = false) (hu : fop .mul .f64 z z = u) (nu : nanB .f64 u = false) (bu : Hid (Bd 1035 u)) (ho : fop .mul .f64 z (ser u 8) = o) (no : nanB .f64 o = false)
    (hb : (FloatKind.f64.format.order (rungAt double y) 4841369599423283200 == some .gt || FloatKind.f64.format.order (rungAt double y) 4841369599423283200 == some .eq) = false) (w : World) :
    Calls Try.prog 43 #[.float .f32 x] w fun e w' => ∃ r n, e = .returned (.float .f32 r) ∧ Narrow (o) r ∧ w' = w.drewN n := by
  subst hf2
  go_enter Try.func43, Try.ntmps43
  go_wp2_with (first | (refine wpList_fopE rfl rfl rfl rfl rfl (by simp only [*]) ?_) | (go_at_call 35; refine (impl_IsFinite _ _).mono ?_; rintro e w' ⟨rfl, nn, rfl⟩) | (go_at_call 64; refine (math_Abs _ hy64 _).mono ?_; rintro e w' ⟨rfl, rfl⟩))
  clear hc hf0 t1 t3 hb c1 c2 hfin hy64
  go_loop [8, 9] (fun p k => ∃ i : Nat, i ≤ 8 ∧ k = .float .f64 (kf (8 - i)) ∧ p = .float .f64 (ser u i)) (fun _ k => meas k)
  case atStart => exact ⟨0, by omega, by rw [kf_eight], rfl⟩
  case round =>
    obtain ⟨i, hi, rfl, rfl⟩ := hrel
    by_cases hlt : i < 8
    · obtain ⟨s1, s2, s3⟩ := ser_nums bu.out hlt
      have e1 : fop .sub .f64 4607182418800017408 (fop .quo .f64 (fop .mul .f64 u (ser u i)) (dens (8 - i))) = ser u (i + 1) := rfl
      obtain ⟨k, hk⟩ : ∃ k, 8 - i = k + 1 := ⟨7 - i, by omega⟩
      rw [hk] at e1 s2 ⊢
      have Hk := Lib.hid hk
      clear hk
      have hk8 : k < 8 := by have := Hk.out; omega
      obtain ⟨g1, g2, g3, g4, g5, g6, g7, g8, g9⟩ := kf_facts k hk8
      go_wp2_with (first | (refine wpList_fopE rfl rfl rfl rfl rfl (by simp only [*]) ?_))
      go_round
      case rel => exact ⟨i + 1, by omega, by have := Hk.out; first | (congr 2; omega) | go_num, rfl⟩
      case measure => exact kf_less k hk8
    · obtain rfl : i = 8 := by omega
      have g9 := kf_zero
      go_wp2_with (first | (refine wpList_fopE rfl rfl rfl rfl rfl (by simp only [*]) ?_) | (refine wpList_narrow some64 Try.underlying23 rfl rfl rfl ?_; intro _ _ _))
      go_ret
      exact ⟨_, rfl, by assumption, _, rfl⟩
set_option maxHeartbeats 1000000 in
theorem impl_sine_110 (x y : Nat) (n : Int) (f0 f1 f2 f3 z u o : Nat) (hfin : finB x = true) (c1 : ∀ w, cval .f32 x .f64 w = y) (c2 : ccnt .f32 x .f64 = 0) (hy64 : y < 18446744073709551616)
    (hc : ∀ w, (convert 28 2 (.float .f64 y)).run Try.prog w = .ok (.int .i64 n) w)
    (hf0 : fop .sub .f64 y (floatOfInt .f64 n) = f0) (_n0 : nanB .f64 0 = false) (nf0 : nanB .f64 f0 = false)
    (t1 : (FloatKind.f64.format.order f0 0 == some .lt) = true)
    (hf1 : fop .add .f64 f0 4607182418800017408 = f1) (nf1 : nanB .f64 f1 = false)
    (t2 : (FloatKind.f64.format.order f1 4602678819172646912 == some .gt || FloatKind.f64.format.order f1 4602678819172646912 == some .eq) = true)
    (hf2 : fop .sub .f64 f1 4602678819172646912 = f2) (nf2 : nanB .f64 f2 = false)
    (t3 : (FloatKind.f64.format.order f2 4598175219545276416 == some .gt) = false)
    (hf3 : f3 = f2)
    (hz : fop .mul .f64 f3 4618760256179416344 = z) (nz : nanB .f64 z = false) (hu : fop .mul .f64 z z = u) (nu : nanB .f64 u = false) (bu : Hid (Bd 1035 u)) (ho : fop .mul .f64 z (ser u 8) = o) (no : nanB .f64 o = false)
    (hb : (FloatKind.f64.format.order (rungAt double y) 4841369599423283200 == some .gt || FloatKind.f64.format.order (rungAt double y) 4841369599423283200 == some .eq) = false) (w : World) :
    Calls Try.prog 43 #[.float .f32 x] w fun e w' => ∃ r n, e = .returned (.float .f32 r) ∧ Narrow (Op.negFloat .f64 o) r ∧ w' = w.drewN n := by
  subst hf3
  go_enter Try.func43, Try.ntmps43
  go_wp2_with (first | (refine wpList_fopE rfl rfl rfl rfl rfl (by simp only [*]) ?_) | (go_at_call 35; refine (impl_IsFinite _ _).mono ?_; rintro e w' ⟨rfl, nn, rfl⟩) | (go_at_call 64; refine (math_Abs _ hy64 _).mono ?_; rintro e w' ⟨rfl, rfl⟩))
  clear hc hf0 t1 t3 hb c1 c2 hfin hy64
  go_loop [8, 9] (fun p k => ∃ i : Nat, i ≤ 8 ∧ k = .float .f64 (kf (8 - i)) ∧ p = .float .f64 (ser u i)) (fun _ k => meas k)
  case atStart => exact ⟨0, by omega, by rw [kf_eight], rfl⟩
  case round =>
    obtain ⟨i, hi, rfl, rfl⟩ := hrel
    by_cases hlt : i < 8
    · obtain ⟨s1, s2, s3⟩ := ser_nums bu.out hlt
      have e1 : fop .sub .f64 4607182418800017408 (fop .quo .f64 (fop .mul .f64 u (ser u i)) (dens (8 - i))) = ser u (i + 1) := rfl
      obtain ⟨k, hk⟩ : ∃ k, 8 - i = k + 1 := ⟨7 - i, by omega⟩
      rw [hk] at e1 s2 ⊢
      have Hk := Lib.hid hk
      clear hk
      have hk8 : k < 8 := by have := Hk.out; omega
      obtain ⟨g1, g2, g3, g4, g5, g6, g7, g8, g9⟩ := kf_facts k hk8
      go_wp2_with (first | (refine wpList_fopE rfl rfl rfl rfl rfl (by simp only [*]) ?_))
      go_round
      case rel => exact ⟨i + 1, by omega, by have := Hk.out; first | (congr 2; omega) | go_num, rfl⟩
      case measure => exact kf_less k hk8
    · obtain rfl : i = 8 := by omega
      have g9 := kf_zero
      go_wp2_with (first | (refine wpList_fopE rfl rfl rfl rfl rfl (by simp only [*]) ?_) | (refine wpList_narrow some64 Try.underlying23 rfl rfl rfl ?_; intro _ _ _))
      go_ret
      exact ⟨_, rfl, by assumption, _, rfl⟩
set_option maxHeartbeats 1000000 in
theorem impl_sine_111 (x y : Nat) (n : Int) (f0 f1 f2 f3 z u o : Nat) (hfin : finB x = true) (c1 : ∀ w, cval .f32 x .f64 w = y) (c2 : ccnt .f32 x .f64 = 0) (hy64 : y < 18446744073709551616)
    (hc : ∀ w, (convert 28 2 (.float .f64 y)).run Try.prog w = .ok (.int .i64 n) w)
    (hf0 : fop .sub .f64 y (floatOfInt .f64 n) = f0) (_n0 : nanB .f64 0 = false) (nf0 : nanB .f64 f0 = false)
    (t1 : (FloatKind.f64.format.order f0 0 == some .lt) = true)
    (hf1 : fop .add .f64 f0 4607182418800017408 = f1) (nf1 : nanB .f64 f1 = false)
    (t2 : (FloatKind.f64.format.order f1 4602678819172646912 == some .gt || FloatKind.f64.format.order f1 4602678819172646912 == some .eq) = true)
    (hf2 : fop .sub .f64 f1 4602678819172646912 = f2) (nf2 : nanB .f64 f2 = false)
    (t3 : (FloatKind.f64.format.order f2 4598175219545276416 == some .gt) = true)
    (hf3 : fop .sub .f64 4602678819172646912 f2 = f3) (nf3 : nanB .f64 f3 = false)
    (hz : fop .mul .f64 f3 4618760256179416344 = z) (nz : nanB .f64 z = false) (hu : fop .mul .f64 z z = u) (nu : nanB .f64 u = false) (bu : Hid (Bd 1035 u)) (ho : fop .mul .f64 z (ser u 8) = o) (no : nanB .f64 o = false)
    (hb : (FloatKind.f64.format.order (rungAt double y) 4841369599423283200 == some .gt || FloatKind.f64.format.order (rungAt double y) 4841369599423283200 == some .eq) = false) (w : World) :
    Calls Try.prog 43 #[.float .f32 x] w fun e w' => ∃ r n, e = .returned (.float .f32 r) ∧ Narrow (Op.negFloat .f64 o) r ∧ w' = w.drewN n := by
  go_enter Try.func43, Try.ntmps43
  go_wp2_with (first | (refine wpList_fopE rfl rfl rfl rfl rfl (by simp only [*]) ?_) | (go_at_call 35; refine (impl_IsFinite _ _).mono ?_; rintro e w' ⟨rfl, nn, rfl⟩) | (go_at_call 64; refine (math_Abs _ hy64 _).mono ?_; rintro e w' ⟨rfl, rfl⟩))
  clear hc hf0 t1 t3 hb c1 c2 hfin hy64
  go_loop [8, 9] (fun p k => ∃ i : Nat, i ≤ 8 ∧ k = .float .f64 (kf (8 - i)) ∧ p = .float .f64 (ser u i)) (fun _ k => meas k)
  case atStart => exact ⟨0, by omega, by rw [kf_eight], rfl⟩
  case round =>
    obtain ⟨i, hi, rfl, rfl⟩ := hrel
    by_cases hlt : i < 8
    · obtain ⟨s1, s2, s3⟩ := ser_nums bu.out hlt
      have e1 : fop .sub .f64 4607182418800017408 (fop .quo .f64 (fop .mul .f64 u (ser u i)) (dens (8 - i))) = ser u (i + 1) := rfl
      obtain ⟨k, hk⟩ : ∃ k, 8 - i = k + 1 := ⟨7 - i, by omega⟩
      rw [hk] at e1 s2 ⊢
      have Hk := Lib.hid hk
      clear hk
      have hk8 : k < 8 := by have := Hk.out; omega
      obtain ⟨g1, g2, g3, g4, g5, g6, g7, g8, g9⟩ := kf_facts k hk8
      go_wp2_with (first | (refine wpList_fopE rfl rfl rfl rfl rfl (by simp only [*]) ?_))
      go_round
      case rel => exact ⟨i + 1, by omega, by have := Hk.out; first | (congr 2; omega) | go_num, rfl⟩
      case measure => exact kf_less k hk8
    · obtain rfl : i = 8 := by omega
      have g9 := kf_zero
      go_wp2_with (first | (refine wpList_fopE rfl rfl rfl rfl rfl (by simp only [*]) ?_) | (refine wpList_narrow some64 Try.underlying23 rfl rfl rfl ?_; intro _ _ _))
      go_ret
      exact ⟨_, rfl, by assumption, _, rfl⟩
end Go.Proofs.Ytcmmafkmfahijaa
