/- The angle of a point: the program and the reference compute one plain function. Conditions: the bits are those of 32-bit numbers. -/
import Derived.Test.YtcmmafkmfahijaaLogSer
namespace Go.Proofs.Ytcmmafkmfahijaa
open Go.RowKit
open Ieee (single double Datum Format)

/-- One round of the halving of an angle. -/
def tst (t : Nat) : Nat → Nat
  | 0 => t
  | i + 1 => fop .quo .f64 (tst t i) (fop .add .f64 4607182418800017408 (fsq (fop .add .f64 4607182418800017408 (fop .mul .f64 (tst t i) (tst t i)))))
/-- The series of the angle behind some rounds. -/
def aser (u : Nat) : Nat → Nat
  | 0 => 0
  | i + 1 => fop .sub .f64 (fop .quo .f64 4607182418800017408 (kfI (15 - 2 * (i : Int)))) (fop .mul .f64 u (aser u i))

theorem tst_parts {T k : Nat} (hk : k ≤ 1027) (hk1 : 1 ≤ k) (h : Bd k T) : Up 1031 (fop .mul .f64 T T) ∧ Up 1032 (fop .add .f64 4607182418800017408 (fop .mul .f64 T T)) ∧ Up 1150 (fsq (fop .add .f64 4607182418800017408 (fop .mul .f64 T T))) ∧
    Up 1151 (fop .add .f64 4607182418800017408 (fsq (fop .add .f64 4607182418800017408 (fop .mul .f64 T T)))) ∧ Bd (k + 1) (fop .quo .f64 T (fop .add .f64 4607182418800017408 (fsq (fop .add .f64 4607182418800017408 (fop .mul .f64 T T))))) := by
  have h1 := up_square (a := k) (c := 1031) hk1 (by omega) (by omega) (by omega) (by omega) h
  have h2 := (one_up (k := 1031) (by omega) (by omega) h1).1
  have h3 := up_root (k := 1032) (by omega) (by omega) h2
  have h4 := one_up (k := 1150) (by omega) (by omega) h3
  exact ⟨h1, h2, h3, h4.1, bd_quo (a := k) (b := 1023) (c := k + 1) hk1 (by omega) (by omega) (by omega) (by omega) (by omega) h h4.2⟩
theorem tst_bd {t : Nat} (h : Bd 1023 t) : ∀ i, i ≤ 3 → Bd (1023 + i) (tst t i) := by
  intro i
  induction i with
  | zero => intro _; exact h
  | succ i ih => intro hi; exact (tst_parts (k := 1023 + i) (by omega) (by omega) (ih (by omega))).2.2.2.2
theorem tst_nums {t : Nat} (h : Bd 1023 t) {i : Nat} (hi : i < 3) : nanB .f64 (fop .mul .f64 (tst t i) (tst t i)) = false ∧ nanB .f64 (fop .add .f64 4607182418800017408 (fop .mul .f64 (tst t i) (tst t i))) = false ∧
    nanB .f64 (fsq (fop .add .f64 4607182418800017408 (fop .mul .f64 (tst t i) (tst t i)))) = false ∧ nanB .f64 (fop .add .f64 4607182418800017408 (fsq (fop .add .f64 4607182418800017408 (fop .mul .f64 (tst t i) (tst t i))))) = false ∧ nanB .f64 (tst t (i + 1)) = false := by
  obtain ⟨a, b, c, d, _⟩ := tst_parts (k := 1023 + i) (by omega) (by omega) (tst_bd h i (by omega))
  exact ⟨bd_not_nan (by omega) (a.bd (by omega)), bd_not_nan (by omega) (b.bd (by omega)), bd_not_nan (by omega) (c.bd (by omega)), bd_not_nan (by omega) (d.bd (by omega)), bd_not_nan (by omega) (tst_bd h (i + 1) (by omega))⟩
theorem arec_bd {i : Nat} (hi : i < 8) : Bd 1023 (fop .quo .f64 4607182418800017408 (kfI (15 - 2 * (i : Int)))) := by
  have key : ∀ i : Nat, i < 8 → decide (rungAt double (fop .quo .f64 4607182418800017408 (kfI (15 - 2 * (i : Int)))) ≤ 1023 * 4503599627370496) = true := by decide +kernel
  have := key i hi; unfold Bd; exact of_decide_eq_true this
theorem aser_bd {u : Nat} (hu : Bd 1029 u) : ∀ i, i ≤ 8 → Bd (1023 + 7 * i) (aser u i) := by
  intro i
  induction i with
  | zero => intro _; exact bd_zero _
  | succ i ih =>
    intro hi
    have h1 := bd_mul (a := 1029) (b := 1023 + 7 * i) (c := 1029 + 7 * i) (by omega) (by omega) (by omega) (by omega) (by omega) (by omega) (by omega) hu (ih (by omega))
    have h3 := bd_sub (k := 1029 + 7 * i) (by omega) (by omega) (bd_mono (arec_bd (i := i) (by omega)) (by omega)) h1
    exact bd_mono h3 (by omega)
theorem aser_nums {u : Nat} (hu : Bd 1029 u) {i : Nat} (hi : i < 8) : nanB .f64 (fop .quo .f64 4607182418800017408 (kfI (15 - 2 * (i : Int)))) = false ∧ nanB .f64 (fop .mul .f64 u (aser u i)) = false ∧ nanB .f64 (aser u (i + 1)) = false := by
  have h1 := bd_mul (a := 1029) (b := 1023 + 7 * i) (c := 1029 + 7 * i) (by omega) (by omega) (by omega) (by omega) (by omega) (by omega) (by omega) hu (aser_bd hu i (by omega))
  exact ⟨bd_not_nan (by omega) (arec_bd hi), bd_not_nan (by omega) h1, bd_not_nan (by omega) (aser_bd hu (i + 1) (by omega))⟩

/-- The quotient of two finite numbers, not both zero, is a number. -/
theorem write_num (s : Bool) (m : Nat) (p : Int) : nanB .f64 (double.write (.number s m p)) = false := by
  have l : rungOf double m p ≤ double.infRung := by
    unfold rungOf; split
    · exact Nat.zero_le _
    · exact Nat.min_le_right _ _
  refine nanB_of_rung (k := .f64) ?_
  show rungAt double (double.nearest s m p) ≤ _
  rw [nearest_eq, rungAt_word _ _ (Nat.lt_of_le_of_lt l (by decide))]; exact l
theorem quo_num {x y : Nat} (hx : Up 2046 x) (hy : Up 2046 y) (h0 : x ≠ 0 ∨ y ≠ 0) : nanB .f64 (fop .quo .f64 x y) = false := by
  obtain ⟨K, hK⟩ : ∃ K : Nat, K = 2046 := ⟨_, rfl⟩
  rw [← hK] at hx hy
  obtain ⟨m, i, e1, _, v1, _⟩ := up_read (by omega) (by omega) hx
  obtain ⟨n, j, e2, _, v2, _⟩ := up_read (by omega) (by omega) hy
  by_cases n0 : n = 0
  · have m0 : m ≠ 0 := by
      rintro rfl
      subst n0
      rw [Nat.zero_mul] at v1 v2
      have a1 := (rv_inj double (r := x) (q := 0)).1 (by rw [← v1, rv_zero])
      have a2 := (rv_inj double (r := y) (q := 0)).1 (by rw [← v2, rv_zero])
      omega
    have : floatBits .quo .f64 x y = some (double.write (.infinity false)) := by
      show double.div x y = _
      unfold Format.div
      rw [e1, e2]
      show (Datum.quotient 54 _ _).map double.write = _
      simp only [Datum.quotient, if_pos n0, if_neg m0, Option.map_some]
      rfl
    rw [fop_some this]; decide +kernel
  · have : floatBits .quo .f64 x y = some (double.write (.number false (2 * (m <<< (54 + n.log2 - m.log2) / n) + (m <<< (54 + n.log2 - m.log2) % n != 0).toNat) ((-1074 + (i : Int)) - (-1074 + (j : Int)) - (54 + n.log2 - m.log2 : Nat) - 1))) := by
      show double.div x y = _
      unfold Format.div
      rw [e1, e2]
      show (Datum.quotient 54 _ _).map double.write = _
      simp only [Datum.quotient, if_neg n0, Option.map_some]
      rfl
    rw [fop_some this]; exact write_num _ _ _

/-- The counter of the program's series. -/
def ameas : Value → Nat
  | .float _ b => ((List.range 9).filter fun (i : Nat) => b == kfI (15 - 2 * (8 - (i : Int)))).foldl (fun a i => a + i) 0
  | _ => 0
theorem ak_less : ∀ i : Nat, i < 8 → ameas (.float .f64 (kfI (15 - 2 * ((i + 1 : Nat) : Int)))) < ameas (.float .f64 (kfI (15 - 2 * (i : Int)))) := by decide +kernel
theorem ak_facts : ∀ i : Nat, i < 8 → (FloatKind.f64.format.order (kfI (15 - 2 * (i : Int))) 4607182418800017408 == some .gt || FloatKind.f64.format.order (kfI (15 - 2 * (i : Int))) 4607182418800017408 == some .eq) = true ∧ fop .sub .f64 (kfI (15 - 2 * (i : Int))) 4611686018427387904 = kfI (15 - 2 * ((i + 1 : Nat) : Int)) ∧ nanB .f64 (kfI (15 - 2 * ((i + 1 : Nat) : Int))) = false := by decide +kernel
theorem ak_last : (FloatKind.f64.format.order (kfI (15 - 2 * ((8 : Nat) : Int))) 4607182418800017408 == some .gt || FloatKind.f64.format.order (kfI (15 - 2 * ((8 : Nat) : Int))) 4607182418800017408 == some .eq) = false := by decide +kernel

/-- The pieces of the angle, of the absolute values. -/
def gT (a b : Nat) : Nat := if decide (b < a) then fop .quo .f64 b a else fop .quo .f64 a b
def gU (a b : Nat) : Nat := fop .mul .f64 (tst (gT a b) 3) (tst (gT a b) 3)
def gP (a b : Nat) : Nat := fop .mul .f64 (tst (gT a b) 3) (aser (gU a b) 8)
def gE (a b : Nat) : Nat := fop .mul .f64 4620693217682128896 (gP a b)
def g0 (a b : Nat) : Nat := fop .quo .f64 (gE a b) 4618760256179416344
def g1 (a b : Nat) : Nat := if decide (b < a) then fop .sub .f64 4598175219545276416 (g0 a b) else g0 a b
def g2 (a b : Nat) (bx : Bool) : Nat := if bx then fop .sub .f64 4602678819172646912 (g1 a b) else g1 a b
theorem bd_eight : Bd 1026 4620693217682128896 := by unfold Bd; decide +kernel
theorem bd_quart : Bd 1023 4598175219545276416 := by unfold Bd; decide +kernel
theorem lo_tau : Lo 1025 4618760256179416344 := by unfold Lo; decide +kernel
section
variable {a b : Nat} (ha : Up 1151 a) (hb : Up 1151 b) (h0 : a ≠ 0 ∨ b ≠ 0)
include ha hb h0
theorem gT_up : Up 1023 (gT a b) := by
  unfold gT
  by_cases h : b < a
  · rw [decide_eq_true h, if_pos rfl]; exact up_quo (hb.mono (by omega)) (ha.mono (by omega)) (by omega) (by omega)
  · rw [decide_eq_false h, if_neg (by decide)]; exact up_quo (ha.mono (by omega)) (hb.mono (by omega)) (by omega) (by omega)
theorem gT_bd : Bd 1023 (gT a b) := (gT_up ha hb h0).bd (by omega)
theorem gU_bd : Bd 1029 (gU a b) := bd_mul (a := 1026) (b := 1026) (by omega) (by omega) (by omega) (by omega) (by omega) (by omega) (by omega) (tst_bd (gT_bd ha hb h0) 3 (by omega)) (tst_bd (gT_bd ha hb h0) 3 (by omega))
theorem gP_bd : Bd 1082 (gP a b) := bd_mul (a := 1026) (b := 1079) (by omega) (by omega) (by omega) (by omega) (by omega) (by omega) (by omega) (tst_bd (gT_bd ha hb h0) 3 (by omega)) (aser_bd (gU_bd ha hb h0) 8 (by omega))
theorem gE_bd : Bd 1085 (gE a b) := bd_mul (a := 1026) (b := 1082) (by omega) (by omega) (by omega) (by omega) (by omega) (by omega) (by omega) bd_eight (gP_bd ha hb h0)
theorem g0_bd : Bd 1084 (g0 a b) := bd_quo (a := 1085) (b := 1025) (by omega) (by omega) (by omega) (by omega) (by omega) (by omega) (gE_bd ha hb h0) lo_tau
theorem g1_bd : Bd 1085 (g1 a b) := by
  unfold g1; split
  · exact bd_sub (by omega) (by omega) (bd_mono bd_quart (by omega)) (g0_bd ha hb h0)
  · exact bd_mono (g0_bd ha hb h0) (by omega)
theorem g2_bd (bx : Bool) : Bd 1086 (g2 a b bx) := by
  unfold g2; split
  · exact bd_sub (by omega) (by omega) (bd_mono bd_half (by omega)) (g1_bd ha hb h0)
  · exact bd_mono (g1_bd ha hb h0) (by omega)
end
/-- The angle in 64 bits, of finite numbers that are not both zero. -/
def angW (y x : Nat) : Nat := if (FloatKind.f64.format.order y 0 == some .lt) then Op.negFloat .f64 (g2 (rungAt double y) (rungAt double x) (FloatKind.f64.format.order x 0 == some .lt)) else g2 (rungAt double y) (rungAt double x) (FloatKind.f64.format.order x 0 == some .lt)

theorem math_SqrtE (x : Nat) (h : nanB .f64 (fsq x) = false) (w : World) : Calls Try.prog 65 #[.float .f64 x] w fun e w' => e = .returned (.float .f64 (fsq x)) ∧ w = w' := by
  have hs : ∃ r, double.sqrt x = some r := by
    cases e : double.sqrt x with
    | some r => exact ⟨r, rfl⟩
    | none => unfold fsq at h; rw [e] at h; rw [show (none : Option Nat).getD (cnan .f64) = cnan .f64 from rfl, cnan_nan] at h; cases h
  obtain ⟨r, hr⟩ := hs
  have e1 : fsqv x w = fsq x := by unfold fsqv fsq; rw [hr]; rfl
  have e2 : fsqc x = 0 := by unfold fsqc; rw [hr]; rfl
  go_enter Try.func65, Try.ntmps65
  go_wp2_with fail
  go_ret
  exact ⟨rfl, rfl⟩

set_option maxHeartbeats 2000000 in
theorem spec_ang_0000 (y x : Nat) (hy64 : y < 18446744073709551616) (hx64 : x < 18446744073709551616) (a b t0 u p p2 h0 h1 h2 : Nat)
    (t1 : (FloatKind.f64.format.order a b == some .gt) = false) (hT : fop .quo .f64 a b = t0) (nT : nanB .f64 t0 = false) (bT : Hid (Bd 1023 t0))
    (hu : fop .mul .f64 (tst t0 3) (tst t0 3) = u) (nu : nanB .f64 u = false) (bu : Hid (Bd 1029 u)) (hp : fop .mul .f64 (tst t0 3) (aser u 8) = p) (np : nanB .f64 p = false)
    (hp2 : fop .mul .f64 4620693217682128896 p = p2) (np2 : nanB .f64 p2 = false) (h0e : fop .quo .f64 p2 4618760256179416344 = h0) (nh0 : nanB .f64 h0 = false)
    (h1e : h1 = h0) (h2e : h2 = h1)
    (hA : rungAt double y = a) (hB : rungAt double x = b) (sy : fop .sub .f64 y y = 0) (sx : ∀ w, fval .sub .f64 x x w = 0) (sx2 : fcnt .sub .f64 x x = 0) (n0 : nanB .f64 0 = false) (h00 : FloatKind.f64.format.order 0 0 = some .eq)
    (zx : (FloatKind.f64.format.order x 0 == some .eq) = false) (nx : (FloatKind.f64.format.order x 0 == some .lt) = false) (ny : (FloatKind.f64.format.order y 0 == some .lt) = false) (w : World) :
    Calls Try.prog 101 #[.float .f64 y, .float .f64 x] w fun e w' => e = .returned (.float .f64 (h2)) ∧ w = w' := by
  subst h1e
  subst h2e
  go_enter Try.func101, Try.ntmps101
  go_wp2_with (first | (refine wpList_fopE rfl rfl rfl rfl rfl (by simp only [*]) ?_) | (go_at_call 64; refine (math_Abs _ (by assumption) _).mono ?_; rintro e w' ⟨rfl, rfl⟩))
  clear sy sx sx2 h00 zx hy64 hx64 hA hB
  go_loop [8, 9] (fun su sv => ∃ i : Nat, i ≤ 3 ∧ sv = .int .i64 (i : Int) ∧ su = .float .f64 (tst t0 i)) (fun su sv => 3 - (intOf sv).toNat)
  case atStart => exact ⟨0, by omega, rfl, rfl⟩
  case round =>
    obtain ⟨i, hi, rfl, rfl⟩ := hrel
    by_cases hi3 : i < 3
    · obtain ⟨s1, s2, s3, s4, s5⟩ := tst_nums bT.out hi3
      have e1 : fop .quo .f64 (tst t0 i) (fop .add .f64 4607182418800017408 (fsq (fop .add .f64 4607182418800017408 (fop .mul .f64 (tst t0 i) (tst t0 i))))) = tst t0 (i + 1) := rfl
      clear hT nT hu nu hp np hp2 np2 h0e nh0 
      go_wp2_with (first | (refine wpList_fopE rfl rfl rfl rfl rfl (by simp only [*]) ?_) | (go_at_call 65; refine (math_SqrtE _ (by simp only [*]) _).mono ?_; rintro e w' ⟨rfl, rfl⟩))
      go_round
      case rel => exact ⟨i + 1, by omega, by go_num, rfl⟩
      case measure => simp [intOf]; omega
    · obtain rfl : i = 3 := by omega
      go_wp2_with (first | (refine wpList_fopE rfl rfl rfl rfl rfl (by simp only [*]) ?_))
      go_loop [11, 12] (fun su sv => ∃ i : Nat, i ≤ 8 ∧ sv = .int .i64 (15 - 2 * (i : Int)) ∧ su = .float .f64 (aser u i)) (fun su sv => (intOf sv + 2).toNat)
      case atStart => exact ⟨0, by omega, by rfl, rfl⟩
      case round =>
        obtain ⟨i, hi, rfl, rfl⟩ := hrel
        by_cases hi8 : i < 8
        · obtain ⟨s1, s2, s3⟩ := aser_nums bu.out hi8
          have e1 : fop .sub .f64 (fop .quo .f64 4607182418800017408 (kfI (15 - 2 * (i : Int)))) (fop .mul .f64 u (aser u i)) = aser u (i + 1) := rfl
          have hk1 : (1 : Int) ≤ 15 - 2 * (i : Int) := by omega
          have hcv : floatOfInt .f64 (15 - 2 * (i : Int)) = kfI (15 - 2 * (i : Int)) := rfl
          clear hT nT hu nu hp np hp2 np2 h0e nh0 
          go_wp2_with (first | (refine wpList_fopE rfl rfl rfl rfl rfl (by simp only [*]) ?_))
          go_round
          case rel => exact ⟨i + 1, by omega, by first | (congr 1; omega) | go_num, rfl⟩
          case measure => simp [intOf]; omega
        · obtain rfl : i = 8 := by omega
          go_wp2_with (first | (refine wpList_fopE rfl rfl rfl rfl rfl (by simp only [*]) ?_))
          go_ret
          exact ⟨rfl, rfl⟩
set_option maxHeartbeats 2000000 in
theorem impl_ang_0000 (y x Y X : Nat) (hy64 : Y < 18446744073709551616) (hx64 : X < 18446744073709551616) (fy : finB y = true) (fx : finB x = true) (cy1 : ∀ w, cval .f32 y .f64 w = Y) (cy2 : ccnt .f32 y .f64 = 0) (cx1 : ∀ w, cval .f32 x .f64 w = X) (cx2 : ccnt .f32 x .f64 = 0) (a b t0 u p p2 h0 h1 h2 : Nat)
    (t1 : (FloatKind.f64.format.order a b == some .gt) = false) (hT : fop .quo .f64 a b = t0) (nT : nanB .f64 t0 = false) (bT : Hid (Bd 1023 t0))
    (hu : fop .mul .f64 (tst t0 3) (tst t0 3) = u) (nu : nanB .f64 u = false) (bu : Hid (Bd 1029 u)) (hp : fop .mul .f64 (tst t0 3) (aser u 8) = p) (np : nanB .f64 p = false)
    (hp2 : fop .mul .f64 4620693217682128896 p = p2) (np2 : nanB .f64 p2 = false) (h0e : fop .quo .f64 p2 4618760256179416344 = h0) (nh0 : nanB .f64 h0 = false)
    (h1e : h1 = h0) (h2e : h2 = h1)
    (hA : rungAt double Y = a) (hB : rungAt double X = b)
    (zx : (FloatKind.f32.format.order x 0 == some .eq) = false) (nx : (FloatKind.f32.format.order x 0 == some .lt) = false) (ny : (FloatKind.f32.format.order y 0 == some .lt) = false) (w : World) :
    Calls Try.prog 24 #[.float .f32 y, .float .f32 x] w fun e w' => ∃ r n, e = .returned (.float .f32 r) ∧ Narrow (h2) r ∧ w' = w.drewN n := by
  subst h1e
  subst h2e
  go_enter Try.func24, Try.ntmps24
  go_wp2_with (first | (refine wpList_fopE rfl rfl rfl rfl rfl (by simp only [*]) ?_) | (go_at_call 64; refine (math_Abs _ (by assumption) _).mono ?_; rintro e w' ⟨rfl, rfl⟩) | (go_at_call 35; refine (impl_IsFinite _ _).mono ?_; rintro e w' ⟨rfl, nn, rfl⟩))
  clear fy fx cy1 cy2 cx1 cx2 zx hy64 hx64 hA hB
  go_loop [7, 42] (fun su sv => ∃ i : Nat, i ≤ 3 ∧ sv = .int .i64 (i : Int) ∧ su = .float .f64 (tst t0 i)) (fun su sv => 3 - (intOf sv).toNat)
  case atStart => exact ⟨0, by omega, rfl, rfl⟩
  case round =>
    obtain ⟨i, hi, rfl, rfl⟩ := hrel
    by_cases hi3 : i < 3
    · obtain ⟨s1, s2, s3, s4, s5⟩ := tst_nums bT.out hi3
      have e1 : fop .quo .f64 (tst t0 i) (fop .add .f64 4607182418800017408 (fsq (fop .add .f64 4607182418800017408 (fop .mul .f64 (tst t0 i) (tst t0 i))))) = tst t0 (i + 1) := rfl
      clear hT nT hu nu hp np hp2 np2 h0e nh0 
      go_wp2_with (first | (refine wpList_fopE rfl rfl rfl rfl rfl (by simp only [*]) ?_) | (go_at_call 65; refine (math_SqrtE _ (by simp only [*]) _).mono ?_; rintro e w' ⟨rfl, rfl⟩))
      go_round
      case rel => exact ⟨i + 1, by omega, by go_num, rfl⟩
      case measure => simp [intOf]; omega
    · obtain rfl : i = 3 := by omega
      go_wp2_with (first | (refine wpList_fopE rfl rfl rfl rfl rfl (by simp only [*]) ?_))
      go_loop [9, 10] (fun su sv => ∃ i : Nat, i ≤ 8 ∧ sv = .float .f64 (kfI (15 - 2 * (i : Int))) ∧ su = .float .f64 (aser u i)) (fun su sv => ameas sv)
      case atStart => exact ⟨0, by omega, by rfl, rfl⟩
      case round =>
        obtain ⟨i, hi, rfl, rfl⟩ := hrel
        by_cases hi8 : i < 8
        · obtain ⟨s1, s2, s3⟩ := aser_nums bu.out hi8
          have e1 : fop .sub .f64 (fop .quo .f64 4607182418800017408 (kfI (15 - 2 * (i : Int)))) (fop .mul .f64 u (aser u i)) = aser u (i + 1) := rfl
          obtain ⟨k1, k2, k3⟩ := ak_facts i hi8
          clear hT nT hu nu hp np hp2 np2 h0e nh0 
          go_wp2_with (first | (refine wpList_fopE rfl rfl rfl rfl rfl (by simp only [*]) ?_))
          go_round
          case rel => exact ⟨i + 1, by omega, by first | rfl | (congr 2; omega) | go_num, rfl⟩
          case measure => exact ak_less i hi8
        · obtain rfl : i = 8 := by omega
          have k1 := ak_last
          go_wp2_with (first | (refine wpList_fopE rfl rfl rfl rfl rfl (by simp only [*]) ?_) | (refine wpList_narrow some64 Try.underlying23 rfl rfl rfl ?_; intro _ _ _))
          go_ret
          exact ⟨_, rfl, by assumption, _, rfl⟩
set_option maxHeartbeats 2000000 in
theorem spec_ang_0010 (y x : Nat) (hy64 : y < 18446744073709551616) (hx64 : x < 18446744073709551616) (a b t0 u p p2 h0 h1 h2 : Nat)
    (t1 : (FloatKind.f64.format.order a b == some .gt) = false) (hT : fop .quo .f64 a b = t0) (nT : nanB .f64 t0 = false) (bT : Hid (Bd 1023 t0))
    (hu : fop .mul .f64 (tst t0 3) (tst t0 3) = u) (nu : nanB .f64 u = false) (bu : Hid (Bd 1029 u)) (hp : fop .mul .f64 (tst t0 3) (aser u 8) = p) (np : nanB .f64 p = false)
    (hp2 : fop .mul .f64 4620693217682128896 p = p2) (np2 : nanB .f64 p2 = false) (h0e : fop .quo .f64 p2 4618760256179416344 = h0) (nh0 : nanB .f64 h0 = false)
    (h1e : h1 = h0) (h2e : h2 = h1)
    (hA : rungAt double y = a) (hB : rungAt double x = b) (sy : fop .sub .f64 y y = 0) (sx : ∀ w, fval .sub .f64 x x w = 0) (sx2 : fcnt .sub .f64 x x = 0) (n0 : nanB .f64 0 = false) (h00 : FloatKind.f64.format.order 0 0 = some .eq)
    (zx : (FloatKind.f64.format.order x 0 == some .eq) = false) (nx : (FloatKind.f64.format.order x 0 == some .lt) = false) (ny : (FloatKind.f64.format.order y 0 == some .lt) = true) (w : World) :
    Calls Try.prog 101 #[.float .f64 y, .float .f64 x] w fun e w' => e = .returned (.float .f64 (Op.negFloat .f64 h2)) ∧ w = w' := by
  subst h1e
  subst h2e
  go_enter Try.func101, Try.ntmps101
  go_wp2_with (first | (refine wpList_fopE rfl rfl rfl rfl rfl (by simp only [*]) ?_) | (go_at_call 64; refine (math_Abs _ (by assumption) _).mono ?_; rintro e w' ⟨rfl, rfl⟩))
  clear sy sx sx2 h00 zx hy64 hx64 hA hB
  go_loop [8, 9] (fun su sv => ∃ i : Nat, i ≤ 3 ∧ sv = .int .i64 (i : Int) ∧ su = .float .f64 (tst t0 i)) (fun su sv => 3 - (intOf sv).toNat)
  case atStart => exact ⟨0, by omega, rfl, rfl⟩
  case round =>
    obtain ⟨i, hi, rfl, rfl⟩ := hrel
    by_cases hi3 : i < 3
    · obtain ⟨s1, s2, s3, s4, s5⟩ := tst_nums bT.out hi3
      have e1 : fop .quo .f64 (tst t0 i) (fop .add .f64 4607182418800017408 (fsq (fop .add .f64 4607182418800017408 (fop .mul .f64 (tst t0 i) (tst t0 i))))) = tst t0 (i + 1) := rfl
      clear hT nT hu nu hp np hp2 np2 h0e nh0 
      go_wp2_with (first | (refine wpList_fopE rfl rfl rfl rfl rfl (by simp only [*]) ?_) | (go_at_call 65; refine (math_SqrtE _ (by simp only [*]) _).mono ?_; rintro e w' ⟨rfl, rfl⟩))
      go_round
      case rel => exact ⟨i + 1, by omega, by go_num, rfl⟩
      case measure => simp [intOf]; omega
    · obtain rfl : i = 3 := by omega
      go_wp2_with (first | (refine wpList_fopE rfl rfl rfl rfl rfl (by simp only [*]) ?_))
      go_loop [11, 12] (fun su sv => ∃ i : Nat, i ≤ 8 ∧ sv = .int .i64 (15 - 2 * (i : Int)) ∧ su = .float .f64 (aser u i)) (fun su sv => (intOf sv + 2).toNat)
      case atStart => exact ⟨0, by omega, by rfl, rfl⟩
      case round =>
        obtain ⟨i, hi, rfl, rfl⟩ := hrel
        by_cases hi8 : i < 8
        · obtain ⟨s1, s2, s3⟩ := aser_nums bu.out hi8
          have e1 : fop .sub .f64 (fop .quo .f64 4607182418800017408 (kfI (15 - 2 * (i : Int)))) (fop .mul .f64 u (aser u i)) = aser u (i + 1) := rfl
          have hk1 : (1 : Int) ≤ 15 - 2 * (i : Int) := by omega
          have hcv : floatOfInt .f64 (15 - 2 * (i : Int)) = kfI (15 - 2 * (i : Int)) := rfl
          clear hT nT hu nu hp np hp2 np2 h0e nh0 
          go_wp2_with (first | (refine wpList_fopE rfl rfl rfl rfl rfl (by simp only [*]) ?_))
          go_round
          case rel => exact ⟨i + 1, by omega, by first | (congr 1; omega) | go_num, rfl⟩
          case measure => simp [intOf]; omega
        · obtain rfl : i = 8 := by omega
          go_wp2_with (first | (refine wpList_fopE rfl rfl rfl rfl rfl (by simp only [*]) ?_))
          go_ret
          exact ⟨rfl, rfl⟩
set_option maxHeartbeats 2000000 in
theorem impl_ang_0010 (y x Y X : Nat) (hy64 : Y < 18446744073709551616) (hx64 : X < 18446744073709551616) (fy : finB y = true) (fx : finB x = true) (cy1 : ∀ w, cval .f32 y .f64 w = Y) (cy2 : ccnt .f32 y .f64 = 0) (cx1 : ∀ w, cval .f32 x .f64 w = X) (cx2 : ccnt .f32 x .f64 = 0) (a b t0 u p p2 h0 h1 h2 : Nat)
    (t1 : (FloatKind.f64.format.order a b == some .gt) = false) (hT : fop .quo .f64 a b = t0) (nT : nanB .f64 t0 = false) (bT : Hid (Bd 1023 t0))
    (hu : fop .mul .f64 (tst t0 3) (tst t0 3) = u) (nu : nanB .f64 u = false) (bu : Hid (Bd 1029 u)) (hp : fop .mul .f64 (tst t0 3) (aser u 8) = p) (np : nanB .f64 p = false)
    (hp2 : fop .mul .f64 4620693217682128896 p = p2) (np2 : nanB .f64 p2 = false) (h0e : fop .quo .f64 p2 4618760256179416344 = h0) (nh0 : nanB .f64 h0 = false)
    (h1e : h1 = h0) (h2e : h2 = h1)
    (hA : rungAt double Y = a) (hB : rungAt double X = b)
    (zx : (FloatKind.f32.format.order x 0 == some .eq) = false) (nx : (FloatKind.f32.format.order x 0 == some .lt) = false) (ny : (FloatKind.f32.format.order y 0 == some .lt) = true) (w : World) :
    Calls Try.prog 24 #[.float .f32 y, .float .f32 x] w fun e w' => ∃ r n, e = .returned (.float .f32 r) ∧ Narrow (Op.negFloat .f64 h2) r ∧ w' = w.drewN n := by
  subst h1e
  subst h2e
  go_enter Try.func24, Try.ntmps24
  go_wp2_with (first | (refine wpList_fopE rfl rfl rfl rfl rfl (by simp only [*]) ?_) | (go_at_call 64; refine (math_Abs _ (by assumption) _).mono ?_; rintro e w' ⟨rfl, rfl⟩) | (go_at_call 35; refine (impl_IsFinite _ _).mono ?_; rintro e w' ⟨rfl, nn, rfl⟩))
  clear fy fx cy1 cy2 cx1 cx2 zx hy64 hx64 hA hB
  go_loop [7, 42] (fun su sv => ∃ i : Nat, i ≤ 3 ∧ sv = .int .i64 (i : Int) ∧ su = .float .f64 (tst t0 i)) (fun su sv => 3 - (intOf sv).toNat)
  case atStart => exact ⟨0, by omega, rfl, rfl⟩
  case round =>
    obtain ⟨i, hi, rfl, rfl⟩ := hrel
    by_cases hi3 : i < 3
    · obtain ⟨s1, s2, s3, s4, s5⟩ := tst_nums bT.out hi3
      have e1 : fop .quo .f64 (tst t0 i) (fop .add .f64 4607182418800017408 (fsq (fop .add .f64 4607182418800017408 (fop .mul .f64 (tst t0 i) (tst t0 i))))) = tst t0 (i + 1) := rfl
      clear hT nT hu nu hp np hp2 np2 h0e nh0 
      go_wp2_with (first | (refine wpList_fopE rfl rfl rfl rfl rfl (by simp only [*]) ?_) | (go_at_call 65; refine (math_SqrtE _ (by simp only [*]) _).mono ?_; rintro e w' ⟨rfl, rfl⟩))
      go_round
      case rel => exact ⟨i + 1, by omega, by go_num, rfl⟩
      case measure => simp [intOf]; omega
    · obtain rfl : i = 3 := by omega
      go_wp2_with (first | (refine wpList_fopE rfl rfl rfl rfl rfl (by simp only [*]) ?_))
      go_loop [9, 10] (fun su sv => ∃ i : Nat, i ≤ 8 ∧ sv = .float .f64 (kfI (15 - 2 * (i : Int))) ∧ su = .float .f64 (aser u i)) (fun su sv => ameas sv)
      case atStart => exact ⟨0, by omega, by rfl, rfl⟩
      case round =>
        obtain ⟨i, hi, rfl, rfl⟩ := hrel
        by_cases hi8 : i < 8
        · obtain ⟨s1, s2, s3⟩ := aser_nums bu.out hi8
          have e1 : fop .sub .f64 (fop .quo .f64 4607182418800017408 (kfI (15 - 2 * (i : Int)))) (fop .mul .f64 u (aser u i)) = aser u (i + 1) := rfl
          obtain ⟨k1, k2, k3⟩ := ak_facts i hi8
          clear hT nT hu nu hp np hp2 np2 h0e nh0 
          go_wp2_with (first | (refine wpList_fopE rfl rfl rfl rfl rfl (by simp only [*]) ?_))
          go_round
          case rel => exact ⟨i + 1, by omega, by first | rfl | (congr 2; omega) | go_num, rfl⟩
          case measure => exact ak_less i hi8
        · obtain rfl : i = 8 := by omega
          have k1 := ak_last
          go_wp2_with (first | (refine wpList_fopE rfl rfl rfl rfl rfl (by simp only [*]) ?_) | (refine wpList_narrow some64 Try.underlying23 rfl rfl rfl ?_; intro _ _ _))
          go_ret
          exact ⟨_, rfl, by assumption, _, rfl⟩
set_option maxHeartbeats 2000000 in
theorem spec_ang_0100 (y x : Nat) (hy64 : y < 18446744073709551616) (hx64 : x < 18446744073709551616) (a b t0 u p p2 h0 h1 h2 : Nat)
    (t1 : (FloatKind.f64.format.order a b == some .gt) = false) (hT : fop .quo .f64 a b = t0) (nT : nanB .f64 t0 = false) (bT : Hid (Bd 1023 t0))
    (hu : fop .mul .f64 (tst t0 3) (tst t0 3) = u) (nu : nanB .f64 u = false) (bu : Hid (Bd 1029 u)) (hp : fop .mul .f64 (tst t0 3) (aser u 8) = p) (np : nanB .f64 p = false)
    (hp2 : fop .mul .f64 4620693217682128896 p = p2) (np2 : nanB .f64 p2 = false) (h0e : fop .quo .f64 p2 4618760256179416344 = h0) (nh0 : nanB .f64 h0 = false)
    (h1e : h1 = h0) (h2e : fop .sub .f64 4602678819172646912 h1 = h2) (nh2 : nanB .f64 h2 = false)
    (hA : rungAt double y = a) (hB : rungAt double x = b) (sy : fop .sub .f64 y y = 0) (sx : ∀ w, fval .sub .f64 x x w = 0) (sx2 : fcnt .sub .f64 x x = 0) (n0 : nanB .f64 0 = false) (h00 : FloatKind.f64.format.order 0 0 = some .eq)
    (zx : (FloatKind.f64.format.order x 0 == some .eq) = false) (nx : (FloatKind.f64.format.order x 0 == some .lt) = true) (ny : (FloatKind.f64.format.order y 0 == some .lt) = false) (w : World) :
    Calls Try.prog 101 #[.float .f64 y, .float .f64 x] w fun e w' => e = .returned (.float .f64 (h2)) ∧ w = w' := by
  subst h1e
  go_enter Try.func101, Try.ntmps101
  go_wp2_with (first | (refine wpList_fopE rfl rfl rfl rfl rfl (by simp only [*]) ?_) | (go_at_call 64; refine (math_Abs _ (by assumption) _).mono ?_; rintro e w' ⟨rfl, rfl⟩))
  clear sy sx sx2 h00 zx hy64 hx64 hA hB
  go_loop [8, 9] (fun su sv => ∃ i : Nat, i ≤ 3 ∧ sv = .int .i64 (i : Int) ∧ su = .float .f64 (tst t0 i)) (fun su sv => 3 - (intOf sv).toNat)
  case atStart => exact ⟨0, by omega, rfl, rfl⟩
  case round =>
    obtain ⟨i, hi, rfl, rfl⟩ := hrel
    by_cases hi3 : i < 3
    · obtain ⟨s1, s2, s3, s4, s5⟩ := tst_nums bT.out hi3
      have e1 : fop .quo .f64 (tst t0 i) (fop .add .f64 4607182418800017408 (fsq (fop .add .f64 4607182418800017408 (fop .mul .f64 (tst t0 i) (tst t0 i))))) = tst t0 (i + 1) := rfl
      clear hT nT hu nu hp np hp2 np2 h0e nh0 h2e nh2 
      go_wp2_with (first | (refine wpList_fopE rfl rfl rfl rfl rfl (by simp only [*]) ?_) | (go_at_call 65; refine (math_SqrtE _ (by simp only [*]) _).mono ?_; rintro e w' ⟨rfl, rfl⟩))
      go_round
      case rel => exact ⟨i + 1, by omega, by go_num, rfl⟩
      case measure => simp [intOf]; omega
    · obtain rfl : i = 3 := by omega
      go_wp2_with (first | (refine wpList_fopE rfl rfl rfl rfl rfl (by simp only [*]) ?_))
      go_loop [11, 12] (fun su sv => ∃ i : Nat, i ≤ 8 ∧ sv = .int .i64 (15 - 2 * (i : Int)) ∧ su = .float .f64 (aser u i)) (fun su sv => (intOf sv + 2).toNat)
      case atStart => exact ⟨0, by omega, by rfl, rfl⟩
      case round =>
        obtain ⟨i, hi, rfl, rfl⟩ := hrel
        by_cases hi8 : i < 8
        · obtain ⟨s1, s2, s3⟩ := aser_nums bu.out hi8
          have e1 : fop .sub .f64 (fop .quo .f64 4607182418800017408 (kfI (15 - 2 * (i : Int)))) (fop .mul .f64 u (aser u i)) = aser u (i + 1) := rfl
          have hk1 : (1 : Int) ≤ 15 - 2 * (i : Int) := by omega
          have hcv : floatOfInt .f64 (15 - 2 * (i : Int)) = kfI (15 - 2 * (i : Int)) := rfl
          clear hT nT hu nu hp np hp2 np2 h0e nh0 h2e nh2 
          go_wp2_with (first | (refine wpList_fopE rfl rfl rfl rfl rfl (by simp only [*]) ?_))
          go_round
          case rel => exact ⟨i + 1, by omega, by first | (congr 1; omega) | go_num, rfl⟩
          case measure => simp [intOf]; omega
        · obtain rfl : i = 8 := by omega
          go_wp2_with (first | (refine wpList_fopE rfl rfl rfl rfl rfl (by simp only [*]) ?_))
          go_ret
          exact ⟨rfl, rfl⟩
set_option maxHeartbeats 2000000 in
theorem impl_ang_0100 (y x Y X : Nat) (hy64 : Y < 18446744073709551616) (hx64 : X < 18446744073709551616) (fy : finB y = true) (fx : finB x = true) (cy1 : ∀ w, cval .f32 y .f64 w = Y) (cy2 : ccnt .f32 y .f64 = 0) (cx1 : ∀ w, cval .f32 x .f64 w = X) (cx2 : ccnt .f32 x .f64 = 0) (a b t0 u p p2 h0 h1 h2 : Nat)
    (t1 : (FloatKind.f64.format.order a b == some .gt) = false) (hT : fop .quo .f64 a b = t0) (nT : nanB .f64 t0 = false) (bT : Hid (Bd 1023 t0))
    (hu : fop .mul .f64 (tst t0 3) (tst t0 3) = u) (nu : nanB .f64 u = false) (bu : Hid (Bd 1029 u)) (hp : fop .mul .f64 (tst t0 3) (aser u 8) = p) (np : nanB .f64 p = false)
    (hp2 : fop .mul .f64 4620693217682128896 p = p2) (np2 : nanB .f64 p2 = false) (h0e : fop .quo .f64 p2 4618760256179416344 = h0) (nh0 : nanB .f64 h0 = false)
    (h1e : h1 = h0) (h2e : fop .sub .f64 4602678819172646912 h1 = h2) (nh2 : nanB .f64 h2 = false)
    (hA : rungAt double Y = a) (hB : rungAt double X = b)
    (zx : (FloatKind.f32.format.order x 0 == some .eq) = false) (nx : (FloatKind.f32.format.order x 0 == some .lt) = true) (ny : (FloatKind.f32.format.order y 0 == some .lt) = false) (w : World) :
    Calls Try.prog 24 #[.float .f32 y, .float .f32 x] w fun e w' => ∃ r n, e = .returned (.float .f32 r) ∧ Narrow (h2) r ∧ w' = w.drewN n := by
  subst h1e
  go_enter Try.func24, Try.ntmps24
  go_wp2_with (first | (refine wpList_fopE rfl rfl rfl rfl rfl (by simp only [*]) ?_) | (go_at_call 64; refine (math_Abs _ (by assumption) _).mono ?_; rintro e w' ⟨rfl, rfl⟩) | (go_at_call 35; refine (impl_IsFinite _ _).mono ?_; rintro e w' ⟨rfl, nn, rfl⟩))
  clear fy fx cy1 cy2 cx1 cx2 zx hy64 hx64 hA hB
  go_loop [7, 42] (fun su sv => ∃ i : Nat, i ≤ 3 ∧ sv = .int .i64 (i : Int) ∧ su = .float .f64 (tst t0 i)) (fun su sv => 3 - (intOf sv).toNat)
  case atStart => exact ⟨0, by omega, rfl, rfl⟩
  case round =>
    obtain ⟨i, hi, rfl, rfl⟩ := hrel
    by_cases hi3 : i < 3
    · obtain ⟨s1, s2, s3, s4, s5⟩ := tst_nums bT.out hi3
      have e1 : fop .quo .f64 (tst t0 i) (fop .add .f64 4607182418800017408 (fsq (fop .add .f64 4607182418800017408 (fop .mul .f64 (tst t0 i) (tst t0 i))))) = tst t0 (i + 1) := rfl
      clear hT nT hu nu hp np hp2 np2 h0e nh0 h2e nh2 
      go_wp2_with (first | (refine wpList_fopE rfl rfl rfl rfl rfl (by simp only [*]) ?_) | (go_at_call 65; refine (math_SqrtE _ (by simp only [*]) _).mono ?_; rintro e w' ⟨rfl, rfl⟩))
      go_round
      case rel => exact ⟨i + 1, by omega, by go_num, rfl⟩
      case measure => simp [intOf]; omega
    · obtain rfl : i = 3 := by omega
      go_wp2_with (first | (refine wpList_fopE rfl rfl rfl rfl rfl (by simp only [*]) ?_))
      go_loop [9, 10] (fun su sv => ∃ i : Nat, i ≤ 8 ∧ sv = .float .f64 (kfI (15 - 2 * (i : Int))) ∧ su = .float .f64 (aser u i)) (fun su sv => ameas sv)
      case atStart => exact ⟨0, by omega, by rfl, rfl⟩
      case round =>
        obtain ⟨i, hi, rfl, rfl⟩ := hrel
        by_cases hi8 : i < 8
        · obtain ⟨s1, s2, s3⟩ := aser_nums bu.out hi8
          have e1 : fop .sub .f64 (fop .quo .f64 4607182418800017408 (kfI (15 - 2 * (i : Int)))) (fop .mul .f64 u (aser u i)) = aser u (i + 1) := rfl
          obtain ⟨k1, k2, k3⟩ := ak_facts i hi8
          clear hT nT hu nu hp np hp2 np2 h0e nh0 h2e nh2 
          go_wp2_with (first | (refine wpList_fopE rfl rfl rfl rfl rfl (by simp only [*]) ?_))
          go_round
          case rel => exact ⟨i + 1, by omega, by first | rfl | (congr 2; omega) | go_num, rfl⟩
          case measure => exact ak_less i hi8
        · obtain rfl : i = 8 := by omega
          have k1 := ak_last
          go_wp2_with (first | (refine wpList_fopE rfl rfl rfl rfl rfl (by simp only [*]) ?_) | (refine wpList_narrow some64 Try.underlying23 rfl rfl rfl ?_; intro _ _ _))
          go_ret
          exact ⟨_, rfl, by assumption, _, rfl⟩
set_option maxHeartbeats 2000000 in
theorem spec_ang_0110 (y x : Nat) (hy64 : y < 18446744073709551616) (hx64 : x < 18446744073709551616) (a b t0 u p p2 h0 h1 h2 : Nat)
    (t1 : (FloatKind.f64.format.order a b == some .gt) = false) (hT : fop .quo .f64 a b = t0) (nT : nanB .f64 t0 = false) (bT : Hid (Bd 1023 t0))
    (hu : fop .mul .f64 (tst t0 3) (tst t0 3) = u) (nu : nanB .f64 u = false) (bu : Hid (Bd 1029 u)) (hp : fop .mul .f64 (tst t0 3) (aser u 8) = p) (np : nanB .f64 p = false)
    (hp2 : fop .mul .f64 4620693217682128896 p = p2) (np2 : nanB .f64 p2 = false) (h0e : fop .quo .f64 p2 4618760256179416344 = h0) (nh0 : nanB .f64 h0 = false)
    (h1e : h1 = h0) (h2e : fop .sub .f64 4602678819172646912 h1 = h2) (nh2 : nanB .f64 h2 = false)
    (hA : rungAt double y = a) (hB : rungAt double x = b) (sy : fop .sub .f64 y y = 0) (sx : ∀ w, fval .sub .f64 x x w = 0) (sx2 : fcnt .sub .f64 x x = 0) (n0 : nanB .f64 0 = false) (h00 : FloatKind.f64.format.order 0 0 = some .eq)
    (zx : (FloatKind.f64.format.order x 0 == some .eq) = false) (nx : (FloatKind.f64.format.order x 0 == some .lt) = true) (ny : (FloatKind.f64.format.order y 0 == some .lt) = true) (w : World) :
    Calls Try.prog 101 #[.float .f64 y, .float .f64 x] w fun e w' => e = .returned (.float .f64 (Op.negFloat .f64 h2)) ∧ w = w' := by
  subst h1e
  go_enter Try.func101, Try.ntmps101
  go_wp2_with (first | (refine wpList_fopE rfl rfl rfl rfl rfl (by simp only [*]) ?_) | (go_at_call 64; refine (math_Abs _ (by assumption) _).mono ?_; rintro e w' ⟨rfl, rfl⟩))
  clear sy sx sx2 h00 zx hy64 hx64 hA hB
  go_loop [8, 9] (fun su sv => ∃ i : Nat, i ≤ 3 ∧ sv = .int .i64 (i : Int) ∧ su = .float .f64 (tst t0 i)) (fun su sv => 3 - (intOf sv).toNat)
  case atStart => exact ⟨0, by omega, rfl, rfl⟩
  case round =>
    obtain ⟨i, hi, rfl, rfl⟩ := hrel
    by_cases hi3 : i < 3
    · obtain ⟨s1, s2, s3, s4, s5⟩ := tst_nums bT.out hi3
      have e1 : fop .quo .f64 (tst t0 i) (fop .add .f64 4607182418800017408 (fsq (fop .add .f64 4607182418800017408 (fop .mul .f64 (tst t0 i) (tst t0 i))))) = tst t0 (i + 1) := rfl
      clear hT nT hu nu hp np hp2 np2 h0e nh0 h2e nh2 
      go_wp2_with (first | (refine wpList_fopE rfl rfl rfl rfl rfl (by simp only [*]) ?_) | (go_at_call 65; refine (math_SqrtE _ (by simp only [*]) _).mono ?_; rintro e w' ⟨rfl, rfl⟩))
      go_round
      case rel => exact ⟨i + 1, by omega, by go_num, rfl⟩
      case measure => simp [intOf]; omega
    · obtain rfl : i = 3 := by omega
      go_wp2_with (first | (refine wpList_fopE rfl rfl rfl rfl rfl (by simp only [*]) ?_))
      go_loop [11, 12] (fun su sv => ∃ i : Nat, i ≤ 8 ∧ sv = .int .i64 (15 - 2 * (i : Int)) ∧ su = .float .f64 (aser u i)) (fun su sv => (intOf sv + 2).toNat)
      case atStart => exact ⟨0, by omega, by rfl, rfl⟩
      case round =>
        obtain ⟨i, hi, rfl, rfl⟩ := hrel
        by_cases hi8 : i < 8
        · obtain ⟨s1, s2, s3⟩ := aser_nums bu.out hi8
          have e1 : fop .sub .f64 (fop .quo .f64 4607182418800017408 (kfI (15 - 2 * (i : Int)))) (fop .mul .f64 u (aser u i)) = aser u (i + 1) := rfl
          have hk1 : (1 : Int) ≤ 15 - 2 * (i : Int) := by omega
          have hcv : floatOfInt .f64 (15 - 2 * (i : Int)) = kfI (15 - 2 * (i : Int)) := rfl
          clear hT nT hu nu hp np hp2 np2 h0e nh0 h2e nh2 
          go_wp2_with (first | (refine wpList_fopE rfl rfl rfl rfl rfl (by simp only [*]) ?_))
          go_round
          case rel => exact ⟨i + 1, by omega, by first | (congr 1; omega) | go_num, rfl⟩
          case measure => simp [intOf]; omega
        · obtain rfl : i = 8 := by omega
          go_wp2_with (first | (refine wpList_fopE rfl rfl rfl rfl rfl (by simp only [*]) ?_))
          go_ret
          exact ⟨rfl, rfl⟩
set_option maxHeartbeats 2000000 in
theorem impl_ang_0110 (y x Y X : Nat) (hy64 : Y < 18446744073709551616) (hx64 : X < 18446744073709551616) (fy : finB y = true) (fx : finB x = true) (cy1 : ∀ w, cval .f32 y .f64 w = Y) (cy2 : ccnt .f32 y .f64 = 0) (cx1 : ∀ w, cval .f32 x .f64 w = X) (cx2 : ccnt .f32 x .f64 = 0) (a b t0 u p p2 h0 h1 h2 : Nat)
    (t1 : (FloatKind.f64.format.order a b == some .gt) = false) (hT : fop .quo .f64 a b = t0) (nT : nanB .f64 t0 = false) (bT : Hid (Bd 1023 t0))
    (hu : fop .mul .f64 (tst t0 3) (tst t0 3) = u) (nu : nanB .f64 u = false) (bu : Hid (Bd 1029 u)) (hp : fop .mul .f64 (tst t0 3) (aser u 8) = p) (np : nanB .f64 p = false)
    (hp2 : fop .mul .f64 4620693217682128896 p = p2) (np2 : nanB .f64 p2 = false) (h0e : fop .quo .f64 p2 4618760256179416344 = h0) (nh0 : nanB .f64 h0 = false)
    (h1e : h1 = h0) (h2e : fop .sub .f64 4602678819172646912 h1 = h2) (nh2 : nanB .f64 h2 = false)
    (hA : rungAt double Y = a) (hB : rungAt double X = b)
    (zx : (FloatKind.f32.format.order x 0 == some .eq) = false) (nx : (FloatKind.f32.format.order x 0 == some .lt) = true) (ny : (FloatKind.f32.format.order y 0 == some .lt) = true) (w : World) :
    Calls Try.prog 24 #[.float .f32 y, .float .f32 x] w fun e w' => ∃ r n, e = .returned (.float .f32 r) ∧ Narrow (Op.negFloat .f64 h2) r ∧ w' = w.drewN n := by
  subst h1e
  go_enter Try.func24, Try.ntmps24
  go_wp2_with (first | (refine wpList_fopE rfl rfl rfl rfl rfl (by simp only [*]) ?_) | (go_at_call 64; refine (math_Abs _ (by assumption) _).mono ?_; rintro e w' ⟨rfl, rfl⟩) | (go_at_call 35; refine (impl_IsFinite _ _).mono ?_; rintro e w' ⟨rfl, nn, rfl⟩))
  clear fy fx cy1 cy2 cx1 cx2 zx hy64 hx64 hA hB
  go_loop [7, 42] (fun su sv => ∃ i : Nat, i ≤ 3 ∧ sv = .int .i64 (i : Int) ∧ su = .float .f64 (tst t0 i)) (fun su sv => 3 - (intOf sv).toNat)
  case atStart => exact ⟨0, by omega, rfl, rfl⟩
  case round =>
    obtain ⟨i, hi, rfl, rfl⟩ := hrel
    by_cases hi3 : i < 3
    · obtain ⟨s1, s2, s3, s4, s5⟩ := tst_nums bT.out hi3
      have e1 : fop .quo .f64 (tst t0 i) (fop .add .f64 4607182418800017408 (fsq (fop .add .f64 4607182418800017408 (fop .mul .f64 (tst t0 i) (tst t0 i))))) = tst t0 (i + 1) := rfl
      clear hT nT hu nu hp np hp2 np2 h0e nh0 h2e nh2 
      go_wp2_with (first | (refine wpList_fopE rfl rfl rfl rfl rfl (by simp only [*]) ?_) | (go_at_call 65; refine (math_SqrtE _ (by simp only [*]) _).mono ?_; rintro e w' ⟨rfl, rfl⟩))
      go_round
      case rel => exact ⟨i + 1, by omega, by go_num, rfl⟩
      case measure => simp [intOf]; omega
    · obtain rfl : i = 3 := by omega
      go_wp2_with (first | (refine wpList_fopE rfl rfl rfl rfl rfl (by simp only [*]) ?_))
      go_loop [9, 10] (fun su sv => ∃ i : Nat, i ≤ 8 ∧ sv = .float .f64 (kfI (15 - 2 * (i : Int))) ∧ su = .float .f64 (aser u i)) (fun su sv => ameas sv)
      case atStart => exact ⟨0, by omega, by rfl, rfl⟩
      case round =>
        obtain ⟨i, hi, rfl, rfl⟩ := hrel
        by_cases hi8 : i < 8
        · obtain ⟨s1, s2, s3⟩ := aser_nums bu.out hi8
          have e1 : fop .sub .f64 (fop .quo .f64 4607182418800017408 (kfI (15 - 2 * (i : Int)))) (fop .mul .f64 u (aser u i)) = aser u (i + 1) := rfl
          obtain ⟨k1, k2, k3⟩ := ak_facts i hi8
          clear hT nT hu nu hp np hp2 np2 h0e nh0 h2e nh2 
          go_wp2_with (first | (refine wpList_fopE rfl rfl rfl rfl rfl (by simp only [*]) ?_))
          go_round
          case rel => exact ⟨i + 1, by omega, by first | rfl | (congr 2; omega) | go_num, rfl⟩
          case measure => exact ak_less i hi8
        · obtain rfl : i = 8 := by omega
          have k1 := ak_last
          go_wp2_with (first | (refine wpList_fopE rfl rfl rfl rfl rfl (by simp only [*]) ?_) | (refine wpList_narrow some64 Try.underlying23 rfl rfl rfl ?_; intro _ _ _))
          go_ret
          exact ⟨_, rfl, by assumption, _, rfl⟩
set_option maxHeartbeats 2000000 in
theorem spec_ang_1000 (y x : Nat) (hy64 : y < 18446744073709551616) (hx64 : x < 18446744073709551616) (a b t0 u p p2 h0 h1 h2 : Nat)
    (t1 : (FloatKind.f64.format.order a b == some .gt) = true) (hT : fop .quo .f64 b a = t0) (nT : nanB .f64 t0 = false) (bT : Hid (Bd 1023 t0))
    (hu : fop .mul .f64 (tst t0 3) (tst t0 3) = u) (nu : nanB .f64 u = false) (bu : Hid (Bd 1029 u)) (hp : fop .mul .f64 (tst t0 3) (aser u 8) = p) (np : nanB .f64 p = false)
    (hp2 : fop .mul .f64 4620693217682128896 p = p2) (np2 : nanB .f64 p2 = false) (h0e : fop .quo .f64 p2 4618760256179416344 = h0) (nh0 : nanB .f64 h0 = false)
    (h1e : fop .sub .f64 4598175219545276416 h0 = h1) (nh1 : nanB .f64 h1 = false) (h2e : h2 = h1)
    (hA : rungAt double y = a) (hB : rungAt double x = b) (sy : fop .sub .f64 y y = 0) (sx : ∀ w, fval .sub .f64 x x w = 0) (sx2 : fcnt .sub .f64 x x = 0) (n0 : nanB .f64 0 = false) (h00 : FloatKind.f64.format.order 0 0 = some .eq)
    (zx : (FloatKind.f64.format.order x 0 == some .eq) = false) (nx : (FloatKind.f64.format.order x 0 == some .lt) = false) (ny : (FloatKind.f64.format.order y 0 == some .lt) = false) (w : World) :
    Calls Try.prog 101 #[.float .f64 y, .float .f64 x] w fun e w' => e = .returned (.float .f64 (h2)) ∧ w = w' := by
  subst h2e
  go_enter Try.func101, Try.ntmps101
  go_wp2_with (first | (refine wpList_fopE rfl rfl rfl rfl rfl (by simp only [*]) ?_) | (go_at_call 64; refine (math_Abs _ (by assumption) _).mono ?_; rintro e w' ⟨rfl, rfl⟩))
  clear sy sx sx2 h00 zx hy64 hx64 hA hB
  go_loop [8, 9] (fun su sv => ∃ i : Nat, i ≤ 3 ∧ sv = .int .i64 (i : Int) ∧ su = .float .f64 (tst t0 i)) (fun su sv => 3 - (intOf sv).toNat)
  case atStart => exact ⟨0, by omega, rfl, rfl⟩
  case round =>
    obtain ⟨i, hi, rfl, rfl⟩ := hrel
    by_cases hi3 : i < 3
    · obtain ⟨s1, s2, s3, s4, s5⟩ := tst_nums bT.out hi3
      have e1 : fop .quo .f64 (tst t0 i) (fop .add .f64 4607182418800017408 (fsq (fop .add .f64 4607182418800017408 (fop .mul .f64 (tst t0 i) (tst t0 i))))) = tst t0 (i + 1) := rfl
      clear hT nT hu nu hp np hp2 np2 h0e nh0 h1e nh1 
      go_wp2_with (first | (refine wpList_fopE rfl rfl rfl rfl rfl (by simp only [*]) ?_) | (go_at_call 65; refine (math_SqrtE _ (by simp only [*]) _).mono ?_; rintro e w' ⟨rfl, rfl⟩))
      go_round
      case rel => exact ⟨i + 1, by omega, by go_num, rfl⟩
      case measure => simp [intOf]; omega
    · obtain rfl : i = 3 := by omega
      go_wp2_with (first | (refine wpList_fopE rfl rfl rfl rfl rfl (by simp only [*]) ?_))
      go_loop [11, 12] (fun su sv => ∃ i : Nat, i ≤ 8 ∧ sv = .int .i64 (15 - 2 * (i : Int)) ∧ su = .float .f64 (aser u i)) (fun su sv => (intOf sv + 2).toNat)
      case atStart => exact ⟨0, by omega, by rfl, rfl⟩
      case round =>
        obtain ⟨i, hi, rfl, rfl⟩ := hrel
        by_cases hi8 : i < 8
        · obtain ⟨s1, s2, s3⟩ := aser_nums bu.out hi8
          have e1 : fop .sub .f64 (fop .quo .f64 4607182418800017408 (kfI (15 - 2 * (i : Int)))) (fop .mul .f64 u (aser u i)) = aser u (i + 1) := rfl
          have hk1 : (1 : Int) ≤ 15 - 2 * (i : Int) := by omega
          have hcv : floatOfInt .f64 (15 - 2 * (i : Int)) = kfI (15 - 2 * (i : Int)) := rfl
          clear hT nT hu nu hp np hp2 np2 h0e nh0 h1e nh1 
          go_wp2_with (first | (refine wpList_fopE rfl rfl rfl rfl rfl (by simp only [*]) ?_))
          go_round
          case rel => exact ⟨i + 1, by omega, by first | (congr 1; omega) | go_num, rfl⟩
          case measure => simp [intOf]; omega
        · obtain rfl : i = 8 := by omega
          go_wp2_with (first | (refine wpList_fopE rfl rfl rfl rfl rfl (by simp only [*]) ?_))
          go_ret
          exact ⟨rfl, rfl⟩
set_option maxHeartbeats 2000000 in
theorem impl_ang_1000 (y x Y X : Nat) (hy64 : Y < 18446744073709551616) (hx64 : X < 18446744073709551616) (fy : finB y = true) (fx : finB x = true) (cy1 : ∀ w, cval .f32 y .f64 w = Y) (cy2 : ccnt .f32 y .f64 = 0) (cx1 : ∀ w, cval .f32 x .f64 w = X) (cx2 : ccnt .f32 x .f64 = 0) (a b t0 u p p2 h0 h1 h2 : Nat)
    (t1 : (FloatKind.f64.format.order a b == some .gt) = true) (hT : fop .quo .f64 b a = t0) (nT : nanB .f64 t0 = false) (hq : nanB .f64 (fop .quo .f64 a b) = false) (bT : Hid (Bd 1023 t0))
    (hu : fop .mul .f64 (tst t0 3) (tst t0 3) = u) (nu : nanB .f64 u = false) (bu : Hid (Bd 1029 u)) (hp : fop .mul .f64 (tst t0 3) (aser u 8) = p) (np : nanB .f64 p = false)
    (hp2 : fop .mul .f64 4620693217682128896 p = p2) (np2 : nanB .f64 p2 = false) (h0e : fop .quo .f64 p2 4618760256179416344 = h0) (nh0 : nanB .f64 h0 = false)
    (h1e : fop .sub .f64 4598175219545276416 h0 = h1) (nh1 : nanB .f64 h1 = false) (h2e : h2 = h1)
    (hA : rungAt double Y = a) (hB : rungAt double X = b)
    (zx : (FloatKind.f32.format.order x 0 == some .eq) = false) (nx : (FloatKind.f32.format.order x 0 == some .lt) = false) (ny : (FloatKind.f32.format.order y 0 == some .lt) = false) (w : World) :
    Calls Try.prog 24 #[.float .f32 y, .float .f32 x] w fun e w' => ∃ r n, e = .returned (.float .f32 r) ∧ Narrow (h2) r ∧ w' = w.drewN n := by
  subst h2e
  go_enter Try.func24, Try.ntmps24
  go_wp2_with (first | (refine wpList_fopE rfl rfl rfl rfl rfl (by simp only [*]) ?_) | (go_at_call 64; refine (math_Abs _ (by assumption) _).mono ?_; rintro e w' ⟨rfl, rfl⟩) | (go_at_call 35; refine (impl_IsFinite _ _).mono ?_; rintro e w' ⟨rfl, nn, rfl⟩))
  clear fy fx cy1 cy2 cx1 cx2 zx hq hy64 hx64 hA hB
  go_loop [7, 42] (fun su sv => ∃ i : Nat, i ≤ 3 ∧ sv = .int .i64 (i : Int) ∧ su = .float .f64 (tst t0 i)) (fun su sv => 3 - (intOf sv).toNat)
  case atStart => exact ⟨0, by omega, rfl, rfl⟩
  case round =>
    obtain ⟨i, hi, rfl, rfl⟩ := hrel
    by_cases hi3 : i < 3
    · obtain ⟨s1, s2, s3, s4, s5⟩ := tst_nums bT.out hi3
      have e1 : fop .quo .f64 (tst t0 i) (fop .add .f64 4607182418800017408 (fsq (fop .add .f64 4607182418800017408 (fop .mul .f64 (tst t0 i) (tst t0 i))))) = tst t0 (i + 1) := rfl
      clear hT nT hu nu hp np hp2 np2 h0e nh0 h1e nh1 
      go_wp2_with (first | (refine wpList_fopE rfl rfl rfl rfl rfl (by simp only [*]) ?_) | (go_at_call 65; refine (math_SqrtE _ (by simp only [*]) _).mono ?_; rintro e w' ⟨rfl, rfl⟩))
      go_round
      case rel => exact ⟨i + 1, by omega, by go_num, rfl⟩
      case measure => simp [intOf]; omega
    · obtain rfl : i = 3 := by omega
      go_wp2_with (first | (refine wpList_fopE rfl rfl rfl rfl rfl (by simp only [*]) ?_))
      go_loop [9, 10] (fun su sv => ∃ i : Nat, i ≤ 8 ∧ sv = .float .f64 (kfI (15 - 2 * (i : Int))) ∧ su = .float .f64 (aser u i)) (fun su sv => ameas sv)
      case atStart => exact ⟨0, by omega, by rfl, rfl⟩
      case round =>
        obtain ⟨i, hi, rfl, rfl⟩ := hrel
        by_cases hi8 : i < 8
        · obtain ⟨s1, s2, s3⟩ := aser_nums bu.out hi8
          have e1 : fop .sub .f64 (fop .quo .f64 4607182418800017408 (kfI (15 - 2 * (i : Int)))) (fop .mul .f64 u (aser u i)) = aser u (i + 1) := rfl
          obtain ⟨k1, k2, k3⟩ := ak_facts i hi8
          clear hT nT hu nu hp np hp2 np2 h0e nh0 h1e nh1 
          go_wp2_with (first | (refine wpList_fopE rfl rfl rfl rfl rfl (by simp only [*]) ?_))
          go_round
          case rel => exact ⟨i + 1, by omega, by first | rfl | (congr 2; omega) | go_num, rfl⟩
          case measure => exact ak_less i hi8
        · obtain rfl : i = 8 := by omega
          have k1 := ak_last
          go_wp2_with (first | (refine wpList_fopE rfl rfl rfl rfl rfl (by simp only [*]) ?_) | (refine wpList_narrow some64 Try.underlying23 rfl rfl rfl ?_; intro _ _ _))
          go_ret
          exact ⟨_, rfl, by assumption, _, rfl⟩
set_option maxHeartbeats 2000000 in
theorem spec_ang_1010 (y x : Nat) (hy64 : y < 18446744073709551616) (hx64 : x < 18446744073709551616) (a b t0 u p p2 h0 h1 h2 : Nat)
    (t1 : (FloatKind.f64.format.order a b == some .gt) = true) (hT : fop .quo .f64 b a = t0) (nT : nanB .f64 t0 = false) (bT : Hid (Bd 1023 t0))
    (hu : fop .mul .f64 (tst t0 3) (tst t0 3) = u) (nu : nanB .f64 u = false) (bu : Hid (Bd 1029 u)) (hp : fop .mul .f64 (tst t0 3) (aser u 8) = p) (np : nanB .f64 p = false)
    (hp2 : fop .mul .f64 4620693217682128896 p = p2) (np2 : nanB .f64 p2 = false) (h0e : fop .quo .f64 p2 4618760256179416344 = h0) (nh0 : nanB .f64 h0 = false)
    (h1e : fop .sub .f64 4598175219545276416 h0 = h1) (nh1 : nanB .f64 h1 = false) (h2e : h2 = h1)
    (hA : rungAt double y = a) (hB : rungAt double x = b) (sy : fop .sub .f64 y y = 0) (sx : ∀ w, fval .sub .f64 x x w = 0) (sx2 : fcnt .sub .f64 x x = 0) (n0 : nanB .f64 0 = false) (h00 : FloatKind.f64.format.order 0 0 = some .eq)
    (zx : (FloatKind.f64.format.order x 0 == some .eq) = false) (nx : (FloatKind.f64.format.order x 0 == some .lt) = false) (ny : (FloatKind.f64.format.order y 0 == some .lt) = true) (w : World) :
    Calls Try.prog 101 #[.float .f64 y, .float .f64 x] w fun e w' => e = .returned (.float .f64 (Op.negFloat .f64 h2)) ∧ w = w' := by
  subst h2e
  go_enter Try.func101, Try.ntmps101
  go_wp2_with (first | (refine wpList_fopE rfl rfl rfl rfl rfl (by simp only [*]) ?_) | (go_at_call 64; refine (math_Abs _ (by assumption) _).mono ?_; rintro e w' ⟨rfl, rfl⟩))
  clear sy sx sx2 h00 zx hy64 hx64 hA hB
  go_loop [8, 9] (fun su sv => ∃ i : Nat, i ≤ 3 ∧ sv = .int .i64 (i : Int) ∧ su = .float .f64 (tst t0 i)) (fun su sv => 3 - (intOf sv).toNat)
  case atStart => exact ⟨0, by omega, rfl, rfl⟩
  case round =>
    obtain ⟨i, hi, rfl, rfl⟩ := hrel
    by_cases hi3 : i < 3
    · obtain ⟨s1, s2, s3, s4, s5⟩ := tst_nums bT.out hi3
      have e1 : fop .quo .f64 (tst t0 i) (fop .add .f64 4607182418800017408 (fsq (fop .add .f64 4607182418800017408 (fop .mul .f64 (tst t0 i) (tst t0 i))))) = tst t0 (i + 1) := rfl
      clear hT nT hu nu hp np hp2 np2 h0e nh0 h1e nh1 
      go_wp2_with (first | (refine wpList_fopE rfl rfl rfl rfl rfl (by simp only [*]) ?_) | (go_at_call 65; refine (math_SqrtE _ (by simp only [*]) _).mono ?_; rintro e w' ⟨rfl, rfl⟩))
      go_round
      case rel => exact ⟨i + 1, by omega, by go_num, rfl⟩
      case measure => simp [intOf]; omega
    · obtain rfl : i = 3 := by omega
      go_wp2_with (first | (refine wpList_fopE rfl rfl rfl rfl rfl (by simp only [*]) ?_))
      go_loop [11, 12] (fun su sv => ∃ i : Nat, i ≤ 8 ∧ sv = .int .i64 (15 - 2 * (i : Int)) ∧ su = .float .f64 (aser u i)) (fun su sv => (intOf sv + 2).toNat)
      case atStart => exact ⟨0, by omega, by rfl, rfl⟩
      case round =>
        obtain ⟨i, hi, rfl, rfl⟩ := hrel
        by_cases hi8 : i < 8
        · obtain ⟨s1, s2, s3⟩ := aser_nums bu.out hi8
          have e1 : fop .sub .f64 (fop .quo .f64 4607182418800017408 (kfI (15 - 2 * (i : Int)))) (fop .mul .f64 u (aser u i)) = aser u (i + 1) := rfl
          have hk1 : (1 : Int) ≤ 15 - 2 * (i : Int) := by omega
          have hcv : floatOfInt .f64 (15 - 2 * (i : Int)) = kfI (15 - 2 * (i : Int)) := rfl
          clear hT nT hu nu hp np hp2 np2 h0e nh0 h1e nh1 
          go_wp2_with (first | (refine wpList_fopE rfl rfl rfl rfl rfl (by simp only [*]) ?_))
          go_round
          case rel => exact ⟨i + 1, by omega, by first | (congr 1; omega) | go_num, rfl⟩
          case measure => simp [intOf]; omega
        · obtain rfl : i = 8 := by omega
          go_wp2_with (first | (refine wpList_fopE rfl rfl rfl rfl rfl (by simp only [*]) ?_))
          go_ret
          exact ⟨rfl, rfl⟩
set_option maxHeartbeats 2000000 in
theorem impl_ang_1010 (y x Y X : Nat) (hy64 : Y < 18446744073709551616) (hx64 : X < 18446744073709551616) (fy : finB y = true) (fx : finB x = true) (cy1 : ∀ w, cval .f32 y .f64 w = Y) (cy2 : ccnt .f32 y .f64 = 0) (cx1 : ∀ w, cval .f32 x .f64 w = X) (cx2 : ccnt .f32 x .f64 = 0) (a b t0 u p p2 h0 h1 h2 : Nat)
    (t1 : (FloatKind.f64.format.order a b == some .gt) = true) (hT : fop .quo .f64 b a = t0) (nT : nanB .f64 t0 = false) (hq : nanB .f64 (fop .quo .f64 a b) = false) (bT : Hid (Bd 1023 t0))
    (hu : fop .mul .f64 (tst t0 3) (tst t0 3) = u) (nu : nanB .f64 u = false) (bu : Hid (Bd 1029 u)) (hp : fop .mul .f64 (tst t0 3) (aser u 8) = p) (np : nanB .f64 p = false)
    (hp2 : fop .mul .f64 4620693217682128896 p = p2) (np2 : nanB .f64 p2 = false) (h0e : fop .quo .f64 p2 4618760256179416344 = h0) (nh0 : nanB .f64 h0 = false)
    (h1e : fop .sub .f64 4598175219545276416 h0 = h1) (nh1 : nanB .f64 h1 = false) (h2e : h2 = h1)
    (hA : rungAt double Y = a) (hB : rungAt double X = b)
    (zx : (FloatKind.f32.format.order x 0 == some .eq) = false) (nx : (FloatKind.f32.format.order x 0 == some .lt) = false) (ny : (FloatKind.f32.format.order y 0 == some .lt) = true) (w : World) :
    Calls Try.prog 24 #[.float .f32 y, .float .f32 x] w fun e w' => ∃ r n, e = .returned (.float .f32 r) ∧ Narrow (Op.negFloat .f64 h2) r ∧ w' = w.drewN n := by
  subst h2e
  go_enter Try.func24, Try.ntmps24
  go_wp2_with (first | (refine wpList_fopE rfl rfl rfl rfl rfl (by simp only [*]) ?_) | (go_at_call 64; refine (math_Abs _ (by assumption) _).mono ?_; rintro e w' ⟨rfl, rfl⟩) | (go_at_call 35; refine (impl_IsFinite _ _).mono ?_; rintro e w' ⟨rfl, nn, rfl⟩))
  clear fy fx cy1 cy2 cx1 cx2 zx hq hy64 hx64 hA hB
  go_loop [7, 42] (fun su sv => ∃ i : Nat, i ≤ 3 ∧ sv = .int .i64 (i : Int) ∧ su = .float .f64 (tst t0 i)) (fun su sv => 3 - (intOf sv).toNat)
  case atStart => exact ⟨0, by omega, rfl, rfl⟩
  case round =>
    obtain ⟨i, hi, rfl, rfl⟩ := hrel
    by_cases hi3 : i < 3
    · obtain ⟨s1, s2, s3, s4, s5⟩ := tst_nums bT.out hi3
      have e1 : fop .quo .f64 (tst t0 i) (fop .add .f64 4607182418800017408 (fsq (fop .add .f64 4607182418800017408 (fop .mul .f64 (tst t0 i) (tst t0 i))))) = tst t0 (i + 1) := rfl
      clear hT nT hu nu hp np hp2 np2 h0e nh0 h1e nh1 
      go_wp2_with (first | (refine wpList_fopE rfl rfl rfl rfl rfl (by simp only [*]) ?_) | (go_at_call 65; refine (math_SqrtE _ (by simp only [*]) _).mono ?_; rintro e w' ⟨rfl, rfl⟩))
      go_round
      case rel => exact ⟨i + 1, by omega, by go_num, rfl⟩
      case measure => simp [intOf]; omega
    · obtain rfl : i = 3 := by omega
      go_wp2_with (first | (refine wpList_fopE rfl rfl rfl rfl rfl (by simp only [*]) ?_))
      go_loop [9, 10] (fun su sv => ∃ i : Nat, i ≤ 8 ∧ sv = .float .f64 (kfI (15 - 2 * (i : Int))) ∧ su = .float .f64 (aser u i)) (fun su sv => ameas sv)
      case atStart => exact ⟨0, by omega, by rfl, rfl⟩
      case round =>
        obtain ⟨i, hi, rfl, rfl⟩ := hrel
        by_cases hi8 : i < 8
        · obtain ⟨s1, s2, s3⟩ := aser_nums bu.out hi8
          have e1 : fop .sub .f64 (fop .quo .f64 4607182418800017408 (kfI (15 - 2 * (i : Int)))) (fop .mul .f64 u (aser u i)) = aser u (i + 1) := rfl
          obtain ⟨k1, k2, k3⟩ := ak_facts i hi8
          clear hT nT hu nu hp np hp2 np2 h0e nh0 h1e nh1 
          go_wp2_with (first | (refine wpList_fopE rfl rfl rfl rfl rfl (by simp only [*]) ?_))
          go_round
          case rel => exact ⟨i + 1, by omega, by first | rfl | (congr 2; omega) | go_num, rfl⟩
          case measure => exact ak_less i hi8
        · obtain rfl : i = 8 := by omega
          have k1 := ak_last
          go_wp2_with (first | (refine wpList_fopE rfl rfl rfl rfl rfl (by simp only [*]) ?_) | (refine wpList_narrow some64 Try.underlying23 rfl rfl rfl ?_; intro _ _ _))
          go_ret
          exact ⟨_, rfl, by assumption, _, rfl⟩
set_option maxHeartbeats 2000000 in
theorem spec_ang_1100 (y x : Nat) (hy64 : y < 18446744073709551616) (hx64 : x < 18446744073709551616) (a b t0 u p p2 h0 h1 h2 : Nat)
    (t1 : (FloatKind.f64.format.order a b == some .gt) = true) (hT : fop .quo .f64 b a = t0) (nT : nanB .f64 t0 = false) (bT : Hid (Bd 1023 t0))
    (hu : fop .mul .f64 (tst t0 3) (tst t0 3) = u) (nu : nanB .f64 u = false) (bu : Hid (Bd 1029 u)) (hp : fop .mul .f64 (tst t0 3) (aser u 8) = p) (np : nanB .f64 p = false)
    (hp2 : fop .mul .f64 4620693217682128896 p = p2) (np2 : nanB .f64 p2 = false) (h0e : fop .quo .f64 p2 4618760256179416344 = h0) (nh0 : nanB .f64 h0 = false)
    (h1e : fop .sub .f64 4598175219545276416 h0 = h1) (nh1 : nanB .f64 h1 = false) (h2e : fop .sub .f64 4602678819172646912 h1 = h2) (nh2 : nanB .f64 h2 = false)
    (hA : rungAt double y = a) (hB : rungAt double x = b) (sy : fop .sub .f64 y y = 0) (sx : ∀ w, fval .sub .f64 x x w = 0) (sx2 : fcnt .sub .f64 x x = 0) (n0 : nanB .f64 0 = false) (h00 : FloatKind.f64.format.order 0 0 = some .eq)
    (zx : (FloatKind.f64.format.order x 0 == some .eq) = false) (nx : (FloatKind.f64.format.order x 0 == some .lt) = true) (ny : (FloatKind.f64.format.order y 0 == some .lt) = false) (w : World) :
    Calls Try.prog 101 #[.float .f64 y, .float .f64 x] w fun e w' => e = .returned (.float .f64 (h2)) ∧ w = w' := by
  go_enter Try.func101, Try.ntmps101
  go_wp2_with (first | (refine wpList_fopE rfl rfl rfl rfl rfl (by simp only [*]) ?_) | (go_at_call 64; refine (math_Abs _ (by assumption) _).mono ?_; rintro e w' ⟨rfl, rfl⟩))
  clear sy sx sx2 h00 zx hy64 hx64 hA hB
  go_loop [8, 9] (fun su sv => ∃ i : Nat, i ≤ 3 ∧ sv = .int .i64 (i : Int) ∧ su = .float .f64 (tst t0 i)) (fun su sv => 3 - (intOf sv).toNat)
  case atStart => exact ⟨0, by omega, rfl, rfl⟩
  case round =>
    obtain ⟨i, hi, rfl, rfl⟩ := hrel
    by_cases hi3 : i < 3
    · obtain ⟨s1, s2, s3, s4, s5⟩ := tst_nums bT.out hi3
      have e1 : fop .quo .f64 (tst t0 i) (fop .add .f64 4607182418800017408 (fsq (fop .add .f64 4607182418800017408 (fop .mul .f64 (tst t0 i) (tst t0 i))))) = tst t0 (i + 1) := rfl
      clear hT nT hu nu hp np hp2 np2 h0e nh0 h1e nh1 h2e nh2 
      go_wp2_with (first | (refine wpList_fopE rfl rfl rfl rfl rfl (by simp only [*]) ?_) | (go_at_call 65; refine (math_SqrtE _ (by simp only [*]) _).mono ?_; rintro e w' ⟨rfl, rfl⟩))
      go_round
      case rel => exact ⟨i + 1, by omega, by go_num, rfl⟩
      case measure => simp [intOf]; omega
    · obtain rfl : i = 3 := by omega
      go_wp2_with (first | (refine wpList_fopE rfl rfl rfl rfl rfl (by simp only [*]) ?_))
      go_loop [11, 12] (fun su sv => ∃ i : Nat, i ≤ 8 ∧ sv = .int .i64 (15 - 2 * (i : Int)) ∧ su = .float .f64 (aser u i)) (fun su sv => (intOf sv + 2).toNat)
      case atStart => exact ⟨0, by omega, by rfl, rfl⟩
      case round =>
        obtain ⟨i, hi, rfl, rfl⟩ := hrel
        by_cases hi8 : i < 8
        · obtain ⟨s1, s2, s3⟩ := aser_nums bu.out hi8
          have e1 : fop .sub .f64 (fop .quo .f64 4607182418800017408 (kfI (15 - 2 * (i : Int)))) (fop .mul .f64 u (aser u i)) = aser u (i + 1) := rfl
          have hk1 : (1 : Int) ≤ 15 - 2 * (i : Int) := by omega
          have hcv : floatOfInt .f64 (15 - 2 * (i : Int)) = kfI (15 - 2 * (i : Int)) := rfl
          clear hT nT hu nu hp np hp2 np2 h0e nh0 h1e nh1 h2e nh2 
          go_wp2_with (first | (refine wpList_fopE rfl rfl rfl rfl rfl (by simp only [*]) ?_))
          go_round
          case rel => exact ⟨i + 1, by omega, by first | (congr 1; omega) | go_num, rfl⟩
          case measure => simp [intOf]; omega
        · obtain rfl : i = 8 := by omega
          go_wp2_with (first | (refine wpList_fopE rfl rfl rfl rfl rfl (by simp only [*]) ?_))
          go_ret
          exact ⟨rfl, rfl⟩
set_option maxHeartbeats 2000000 in
theorem impl_ang_1100 (y x Y X : Nat) (hy64 : Y < 18446744073709551616) (hx64 : X < 18446744073709551616) (fy : finB y = true) (fx : finB x = true) (cy1 : ∀ w, cval .f32 y .f64 w = Y) (cy2 : ccnt .f32 y .f64 = 0) (cx1 : ∀ w, cval .f32 x .f64 w = X) (cx2 : ccnt .f32 x .f64 = 0) (a b t0 u p p2 h0 h1 h2 : Nat)
    (t1 : (FloatKind.f64.format.order a b == some .gt) = true) (hT : fop .quo .f64 b a = t0) (nT : nanB .f64 t0 = false) (hq : nanB .f64 (fop .quo .f64 a b) = false) (bT : Hid (Bd 1023 t0))
    (hu : fop .mul .f64 (tst t0 3) (tst t0 3) = u) (nu : nanB .f64 u = false) (bu : Hid (Bd 1029 u)) (hp : fop .mul .f64 (tst t0 3) (aser u 8) = p) (np : nanB .f64 p = false)
    (hp2 : fop .mul .f64 4620693217682128896 p = p2) (np2 : nanB .f64 p2 = false) (h0e : fop .quo .f64 p2 4618760256179416344 = h0) (nh0 : nanB .f64 h0 = false)
    (h1e : fop .sub .f64 4598175219545276416 h0 = h1) (nh1 : nanB .f64 h1 = false) (h2e : fop .sub .f64 4602678819172646912 h1 = h2) (nh2 : nanB .f64 h2 = false)
    (hA : rungAt double Y = a) (hB : rungAt double X = b)
    (zx : (FloatKind.f32.format.order x 0 == some .eq) = false) (nx : (FloatKind.f32.format.order x 0 == some .lt) = true) (ny : (FloatKind.f32.format.order y 0 == some .lt) = false) (w : World) :
    Calls Try.prog 24 #[.float .f32 y, .float .f32 x] w fun e w' => ∃ r n, e = .returned (.float .f32 r) ∧ Narrow (h2) r ∧ w' = w.drewN n := by
  go_enter Try.func24, Try.ntmps24
  go_wp2_with (first | (refine wpList_fopE rfl rfl rfl rfl rfl (by simp only [*]) ?_) | (go_at_call 64; refine (math_Abs _ (by assumption) _).mono ?_; rintro e w' ⟨rfl, rfl⟩) | (go_at_call 35; refine (impl_IsFinite _ _).mono ?_; rintro e w' ⟨rfl, nn, rfl⟩))
  clear fy fx cy1 cy2 cx1 cx2 zx hq hy64 hx64 hA hB
  go_loop [7, 42] (fun su sv => ∃ i : Nat, i ≤ 3 ∧ sv = .int .i64 (i : Int) ∧ su = .float .f64 (tst t0 i)) (fun su sv => 3 - (intOf sv).toNat)
  case atStart => exact ⟨0, by omega, rfl, rfl⟩
  case round =>
    obtain ⟨i, hi, rfl, rfl⟩ := hrel
    by_cases hi3 : i < 3
    · obtain ⟨s1, s2, s3, s4, s5⟩ := tst_nums bT.out hi3
      have e1 : fop .quo .f64 (tst t0 i) (fop .add .f64 4607182418800017408 (fsq (fop .add .f64 4607182418800017408 (fop .mul .f64 (tst t0 i) (tst t0 i))))) = tst t0 (i + 1) := rfl
      clear hT nT hu nu hp np hp2 np2 h0e nh0 h1e nh1 h2e nh2 
      go_wp2_with (first | (refine wpList_fopE rfl rfl rfl rfl rfl (by simp only [*]) ?_) | (go_at_call 65; refine (math_SqrtE _ (by simp only [*]) _).mono ?_; rintro e w' ⟨rfl, rfl⟩))
      go_round
      case rel => exact ⟨i + 1, by omega, by go_num, rfl⟩
      case measure => simp [intOf]; omega
    · obtain rfl : i = 3 := by omega
      go_wp2_with (first | (refine wpList_fopE rfl rfl rfl rfl rfl (by simp only [*]) ?_))
      go_loop [9, 10] (fun su sv => ∃ i : Nat, i ≤ 8 ∧ sv = .float .f64 (kfI (15 - 2 * (i : Int))) ∧ su = .float .f64 (aser u i)) (fun su sv => ameas sv)
      case atStart => exact ⟨0, by omega, by rfl, rfl⟩
      case round =>
        obtain ⟨i, hi, rfl, rfl⟩ := hrel
        by_cases hi8 : i < 8
        · obtain ⟨s1, s2, s3⟩ := aser_nums bu.out hi8
          have e1 : fop .sub .f64 (fop .quo .f64 4607182418800017408 (kfI (15 - 2 * (i : Int)))) (fop .mul .f64 u (aser u i)) = aser u (i + 1) := rfl
          obtain ⟨k1, k2, k3⟩ := ak_facts i hi8
          clear hT nT hu nu hp np hp2 np2 h0e nh0 h1e nh1 h2e nh2 
          go_wp2_with (first | (refine wpList_fopE rfl rfl rfl rfl rfl (by simp only [*]) ?_))
          go_round
          case rel => exact ⟨i + 1, by omega, by first | rfl | (congr 2; omega) | go_num, rfl⟩
          case measure => exact ak_less i hi8
        · obtain rfl : i = 8 := by omega
          have k1 := ak_last
          go_wp2_with (first | (refine wpList_fopE rfl rfl rfl rfl rfl (by simp only [*]) ?_) | (refine wpList_narrow some64 Try.underlying23 rfl rfl rfl ?_; intro _ _ _))
          go_ret
          exact ⟨_, rfl, by assumption, _, rfl⟩
set_option maxHeartbeats 2000000 in
theorem spec_ang_1110 (y x : Nat) (hy64 : y < 18446744073709551616) (hx64 : x < 18446744073709551616) (a b t0 u p p2 h0 h1 h2 : Nat)
    (t1 : (FloatKind.f64.format.order a b == some .gt) = true) (hT : fop .quo .f64 b a = t0) (nT : nanB .f64 t0 = false) (bT : Hid (Bd 1023 t0))
    (hu : fop .mul .f64 (tst t0 3) (tst t0 3) = u) (nu : nanB .f64 u = false) (bu : Hid (Bd 1029 u)) (hp : fop .mul .f64 (tst t0 3) (aser u 8) = p) (np : nanB .f64 p = false)
    (hp2 : fop .mul .f64 4620693217682128896 p = p2) (np2 : nanB .f64 p2 = false) (h0e : fop .quo .f64 p2 4618760256179416344 = h0) (nh0 : nanB .f64 h0 = false)
    (h1e : fop .sub .f64 4598175219545276416 h0 = h1) (nh1 : nanB .f64 h1 = false) (h2e : fop .sub .f64 4602678819172646912 h1 = h2) (nh2 : nanB .f64 h2 = false)
    (hA : rungAt double y = a) (hB : rungAt double x = b) (sy : fop .sub .f64 y y = 0) (sx : ∀ w, fval .sub .f64 x x w = 0) (sx2 : fcnt .sub .f64 x x = 0) (n0 : nanB .f64 0 = false) (h00 : FloatKind.f64.format.order 0 0 = some .eq)
    (zx : (FloatKind.f64.format.order x 0 == some .eq) = false) (nx : (FloatKind.f64.format.order x 0 == some .lt) = true) (ny : (FloatKind.f64.format.order y 0 == some .lt) = true) (w : World) :
    Calls Try.prog 101 #[.float .f64 y, .float .f64 x] w fun e w' => e = .returned (.float .f64 (Op.negFloat .f64 h2)) ∧ w = w' := by
  go_enter Try.func101, Try.ntmps101
  go_wp2_with (first | (refine wpList_fopE rfl rfl rfl rfl rfl (by simp only [*]) ?_) | (go_at_call 64; refine (math_Abs _ (by assumption) _).mono ?_; rintro e w' ⟨rfl, rfl⟩))
  clear sy sx sx2 h00 zx hy64 hx64 hA hB
  go_loop [8, 9] (fun su sv => ∃ i : Nat, i ≤ 3 ∧ sv = .int .i64 (i : Int) ∧ su = .float .f64 (tst t0 i)) (fun su sv => 3 - (intOf sv).toNat)
  case atStart => exact ⟨0, by omega, rfl, rfl⟩
  case round =>
    obtain ⟨i, hi, rfl, rfl⟩ := hrel
    by_cases hi3 : i < 3
    · obtain ⟨s1, s2, s3, s4, s5⟩ := tst_nums bT.out hi3
      have e1 : fop .quo .f64 (tst t0 i) (fop .add .f64 4607182418800017408 (fsq (fop .add .f64 4607182418800017408 (fop .mul .f64 (tst t0 i) (tst t0 i))))) = tst t0 (i + 1) := rfl
      clear hT nT hu nu hp np hp2 np2 h0e nh0 h1e nh1 h2e nh2 
      go_wp2_with (first | (refine wpList_fopE rfl rfl rfl rfl rfl (by simp only [*]) ?_) | (go_at_call 65; refine (math_SqrtE _ (by simp only [*]) _).mono ?_; rintro e w' ⟨rfl, rfl⟩))
      go_round
      case rel => exact ⟨i + 1, by omega, by go_num, rfl⟩
      case measure => simp [intOf]; omega
    · obtain rfl : i = 3 := by omega
      go_wp2_with (first | (refine wpList_fopE rfl rfl rfl rfl rfl (by simp only [*]) ?_))
      go_loop [11, 12] (fun su sv => ∃ i : Nat, i ≤ 8 ∧ sv = .int .i64 (15 - 2 * (i : Int)) ∧ su = .float .f64 (aser u i)) (fun su sv => (intOf sv + 2).toNat)
      case atStart => exact ⟨0, by omega, by rfl, rfl⟩
      case round =>
        obtain ⟨i, hi, rfl, rfl⟩ := hrel
        by_cases hi8 : i < 8
        · obtain ⟨s1, s2, s3⟩ := aser_nums bu.out hi8
          have e1 : fop .sub .f64 (fop .quo .f64 4607182418800017408 (kfI (15 - 2 * (i : Int)))) (fop .mul .f64 u (aser u i)) = aser u (i + 1) := rfl
          have hk1 : (1 : Int) ≤ 15 - 2 * (i : Int) := by omega
          have hcv : floatOfInt .f64 (15 - 2 * (i : Int)) = kfI (15 - 2 * (i : Int)) := rfl
          clear hT nT hu nu hp np hp2 np2 h0e nh0 h1e nh1 h2e nh2 
          go_wp2_with (first | (refine wpList_fopE rfl rfl rfl rfl rfl (by simp only [*]) ?_))
          go_round
          case rel => exact ⟨i + 1, by omega, by first | (congr 1; omega) | go_num, rfl⟩
          case measure => simp [intOf]; omega
        · obtain rfl : i = 8 := by omega
          go_wp2_with (first | (refine wpList_fopE rfl rfl rfl rfl rfl (by simp only [*]) ?_))
          go_ret
          exact ⟨rfl, rfl⟩
set_option maxHeartbeats 2000000 in
theorem impl_ang_1110 (y x Y X : Nat) (hy64 : Y < 18446744073709551616) (hx64 : X < 18446744073709551616) (fy : finB y = true) (fx : finB x = true) (cy1 : ∀ w, cval .f32 y .f64 w = Y) (cy2 : ccnt .f32 y .f64 = 0) (cx1 : ∀ w, cval .f32 x .f64 w = X) (cx2 : ccnt .f32 x .f64 = 0) (a b t0 u p p2 h0 h1 h2 : Nat)
    (t1 : (FloatKind.f64.format.order a b == some .gt) = true) (hT : fop .quo .f64 b a = t0) (nT : nanB .f64 t0 = false) (hq : nanB .f64 (fop .quo .f64 a b) = false) (bT : Hid (Bd 1023 t0))
    (hu : fop .mul .f64 (tst t0 3) (tst t0 3) = u) (nu : nanB .f64 u = false) (bu : Hid (Bd 1029 u)) (hp : fop .mul .f64 (tst t0 3) (aser u 8) = p) (np : nanB .f64 p = false)
    (hp2 : fop .mul .f64 4620693217682128896 p = p2) (np2 : nanB .f64 p2 = false) (h0e : fop .quo .f64 p2 4618760256179416344 = h0) (nh0 : nanB .f64 h0 = false)
    (h1e : fop .sub .f64 4598175219545276416 h0 = h1) (nh1 : nanB .f64 h1 = false) (h2e : fop .sub .f64 4602678819172646912 h1 = h2) (nh2 : nanB .f64 h2 = false)
    (hA : rungAt double Y = a) (hB : rungAt double X = b)
    (zx : (FloatKind.f32.format.order x 0 == some .eq) = false) (nx : (FloatKind.f32.format.order x 0 == some .lt) = true) (ny : (FloatKind.f32.format.order y 0 == some .lt) = true) (w : World) :
    Calls Try.prog 24 #[.float .f32 y, .float .f32 x] w fun e w' => ∃ r n, e = .returned (.float .f32 r) ∧ Narrow (Op.negFloat .f64 h2) r ∧ w' = w.drewN n := by
  go_enter Try.func24, Try.ntmps24
  go_wp2_with (first | (refine wpList_fopE rfl rfl rfl rfl rfl (by simp only [*]) ?_) | (go_at_call 64; refine (math_Abs _ (by assumption) _).mono ?_; rintro e w' ⟨rfl, rfl⟩) | (go_at_call 35; refine (impl_IsFinite _ _).mono ?_; rintro e w' ⟨rfl, nn, rfl⟩))
  clear fy fx cy1 cy2 cx1 cx2 zx hq hy64 hx64 hA hB
  go_loop [7, 42] (fun su sv => ∃ i : Nat, i ≤ 3 ∧ sv = .int .i64 (i : Int) ∧ su = .float .f64 (tst t0 i)) (fun su sv => 3 - (intOf sv).toNat)
  case atStart => exact ⟨0, by omega, rfl, rfl⟩
  case round =>
    obtain ⟨i, hi, rfl, rfl⟩ := hrel
    by_cases hi3 : i < 3
    · obtain ⟨s1, s2, s3, s4, s5⟩ := tst_nums bT.out hi3
      have e1 : fop .quo .f64 (tst t0 i) (fop .add .f64 4607182418800017408 (fsq (fop .add .f64 4607182418800017408 (fop .mul .f64 (tst t0 i) (tst t0 i))))) = tst t0 (i + 1) := rfl
      clear hT nT hu nu hp np hp2 np2 h0e nh0 h1e nh1 h2e nh2 
      go_wp2_with (first | (refine wpList_fopE rfl rfl rfl rfl rfl (by simp only [*]) ?_) | (go_at_call 65; refine (math_SqrtE _ (by simp only [*]) _).mono ?_; rintro e w' ⟨rfl, rfl⟩))
      go_round
      case rel => exact ⟨i + 1, by omega, by go_num, rfl⟩
      case measure => simp [intOf]; omega
    · obtain rfl : i = 3 := by omega
      go_wp2_with (first | (refine wpList_fopE rfl rfl rfl rfl rfl (by simp only [*]) ?_))
      go_loop [9, 10] (fun su sv => ∃ i : Nat, i ≤ 8 ∧ sv = .float .f64 (kfI (15 - 2 * (i : Int))) ∧ su = .float .f64 (aser u i)) (fun su sv => ameas sv)
      case atStart => exact ⟨0, by omega, by rfl, rfl⟩
      case round =>
        obtain ⟨i, hi, rfl, rfl⟩ := hrel
        by_cases hi8 : i < 8
        · obtain ⟨s1, s2, s3⟩ := aser_nums bu.out hi8
          have e1 : fop .sub .f64 (fop .quo .f64 4607182418800017408 (kfI (15 - 2 * (i : Int)))) (fop .mul .f64 u (aser u i)) = aser u (i + 1) := rfl
          obtain ⟨k1, k2, k3⟩ := ak_facts i hi8
          clear hT nT hu nu hp np hp2 np2 h0e nh0 h1e nh1 h2e nh2 
          go_wp2_with (first | (refine wpList_fopE rfl rfl rfl rfl rfl (by simp only [*]) ?_))
          go_round
          case rel => exact ⟨i + 1, by omega, by first | rfl | (congr 2; omega) | go_num, rfl⟩
          case measure => exact ak_less i hi8
        · obtain rfl : i = 8 := by omega
          have k1 := ak_last
          go_wp2_with (first | (refine wpList_fopE rfl rfl rfl rfl rfl (by simp only [*]) ?_) | (refine wpList_narrow some64 Try.underlying23 rfl rfl rfl ?_; intro _ _ _))
          go_ret
          exact ⟨_, rfl, by assumption, _, rfl⟩
set_option maxHeartbeats 2000000 in
theorem spec_ang_1001 (y x : Nat) (hy64 : y < 18446744073709551616) (hx64 : x < 18446744073709551616) (a b t0 u p p2 h0 h1 h2 : Nat)
    (t1 : (FloatKind.f64.format.order a b == some .gt) = true) (hT : fop .quo .f64 b a = t0) (nT : nanB .f64 t0 = false) (bT : Hid (Bd 1023 t0))
    (hu : fop .mul .f64 (tst t0 3) (tst t0 3) = u) (nu : nanB .f64 u = false) (bu : Hid (Bd 1029 u)) (hp : fop .mul .f64 (tst t0 3) (aser u 8) = p) (np : nanB .f64 p = false)
    (hp2 : fop .mul .f64 4620693217682128896 p = p2) (np2 : nanB .f64 p2 = false) (h0e : fop .quo .f64 p2 4618760256179416344 = h0) (nh0 : nanB .f64 h0 = false)
    (h1e : fop .sub .f64 4598175219545276416 h0 = h1) (nh1 : nanB .f64 h1 = false) (h2e : h2 = h1)
    (hA : rungAt double y = a) (hB : rungAt double x = b) (sy : fop .sub .f64 y y = 0) (sx : ∀ w, fval .sub .f64 x x w = 0) (sx2 : fcnt .sub .f64 x x = 0) (n0 : nanB .f64 0 = false) (h00 : FloatKind.f64.format.order 0 0 = some .eq)
    (zx : (FloatKind.f64.format.order x 0 == some .eq) = true) (zy : (FloatKind.f64.format.order y 0 == some .eq) = false) (nx : (FloatKind.f64.format.order x 0 == some .lt) = false) (ny : (FloatKind.f64.format.order y 0 == some .lt) = false) (w : World) :
    Calls Try.prog 101 #[.float .f64 y, .float .f64 x] w fun e w' => e = .returned (.float .f64 (h2)) ∧ w = w' := by
  subst h2e
  go_enter Try.func101, Try.ntmps101
  go_wp2_with (first | (refine wpList_fopE rfl rfl rfl rfl rfl (by simp only [*]) ?_) | (go_at_call 64; refine (math_Abs _ (by assumption) _).mono ?_; rintro e w' ⟨rfl, rfl⟩))
  clear sy sx sx2 h00 zx zy hy64 hx64 hA hB
  go_loop [8, 9] (fun su sv => ∃ i : Nat, i ≤ 3 ∧ sv = .int .i64 (i : Int) ∧ su = .float .f64 (tst t0 i)) (fun su sv => 3 - (intOf sv).toNat)
  case atStart => exact ⟨0, by omega, rfl, rfl⟩
  case round =>
    obtain ⟨i, hi, rfl, rfl⟩ := hrel
    by_cases hi3 : i < 3
    · obtain ⟨s1, s2, s3, s4, s5⟩ := tst_nums bT.out hi3
      have e1 : fop .quo .f64 (tst t0 i) (fop .add .f64 4607182418800017408 (fsq (fop .add .f64 4607182418800017408 (fop .mul .f64 (tst t0 i) (tst t0 i))))) = tst t0 (i + 1) := rfl
      clear hT nT hu nu hp np hp2 np2 h0e nh0 h1e nh1 
      go_wp2_with (first | (refine wpList_fopE rfl rfl rfl rfl rfl (by simp only [*]) ?_) | (go_at_call 65; refine (math_SqrtE _ (by simp only [*]) _).mono ?_; rintro e w' ⟨rfl, rfl⟩))
      go_round
      case rel => exact ⟨i + 1, by omega, by go_num, rfl⟩
      case measure => simp [intOf]; omega
    · obtain rfl : i = 3 := by omega
      go_wp2_with (first | (refine wpList_fopE rfl rfl rfl rfl rfl (by simp only [*]) ?_))
      go_loop [11, 12] (fun su sv => ∃ i : Nat, i ≤ 8 ∧ sv = .int .i64 (15 - 2 * (i : Int)) ∧ su = .float .f64 (aser u i)) (fun su sv => (intOf sv + 2).toNat)
      case atStart => exact ⟨0, by omega, by rfl, rfl⟩
      case round =>
        obtain ⟨i, hi, rfl, rfl⟩ := hrel
        by_cases hi8 : i < 8
        · obtain ⟨s1, s2, s3⟩ := aser_nums bu.out hi8
          have e1 : fop .sub .f64 (fop .quo .f64 4607182418800017408 (kfI (15 - 2 * (i : Int)))) (fop .mul .f64 u (aser u i)) = aser u (i + 1) := rfl
          have hk1 : (1 : Int) ≤ 15 - 2 * (i : Int) := by omega
          have hcv : floatOfInt .f64 (15 - 2 * (i : Int)) = kfI (15 - 2 * (i : Int)) := rfl
          clear hT nT hu nu hp np hp2 np2 h0e nh0 h1e nh1 
          go_wp2_with (first | (refine wpList_fopE rfl rfl rfl rfl rfl (by simp only [*]) ?_))
          go_round
          case rel => exact ⟨i + 1, by omega, by first | (congr 1; omega) | go_num, rfl⟩
          case measure => simp [intOf]; omega
        · obtain rfl : i = 8 := by omega
          go_wp2_with (first | (refine wpList_fopE rfl rfl rfl rfl rfl (by simp only [*]) ?_))
          go_ret
          exact ⟨rfl, rfl⟩
set_option maxHeartbeats 2000000 in
theorem impl_ang_1001 (y x Y X : Nat) (hy64 : Y < 18446744073709551616) (hx64 : X < 18446744073709551616) (fy : finB y = true) (fx : finB x = true) (cy1 : ∀ w, cval .f32 y .f64 w = Y) (cy2 : ccnt .f32 y .f64 = 0) (cx1 : ∀ w, cval .f32 x .f64 w = X) (cx2 : ccnt .f32 x .f64 = 0) (a b t0 u p p2 h0 h1 h2 : Nat)
    (t1 : (FloatKind.f64.format.order a b == some .gt) = true) (hT : fop .quo .f64 b a = t0) (nT : nanB .f64 t0 = false) (hq : nanB .f64 (fop .quo .f64 a b) = false) (bT : Hid (Bd 1023 t0))
    (hu : fop .mul .f64 (tst t0 3) (tst t0 3) = u) (nu : nanB .f64 u = false) (bu : Hid (Bd 1029 u)) (hp : fop .mul .f64 (tst t0 3) (aser u 8) = p) (np : nanB .f64 p = false)
    (hp2 : fop .mul .f64 4620693217682128896 p = p2) (np2 : nanB .f64 p2 = false) (h0e : fop .quo .f64 p2 4618760256179416344 = h0) (nh0 : nanB .f64 h0 = false)
    (h1e : fop .sub .f64 4598175219545276416 h0 = h1) (nh1 : nanB .f64 h1 = false) (h2e : h2 = h1)
    (hA : rungAt double Y = a) (hB : rungAt double X = b)
    (zx : (FloatKind.f32.format.order x 0 == some .eq) = true) (zy : (FloatKind.f32.format.order y 0 == some .eq) = false) (nx : (FloatKind.f32.format.order x 0 == some .lt) = false) (ny : (FloatKind.f32.format.order y 0 == some .lt) = false) (w : World) :
    Calls Try.prog 24 #[.float .f32 y, .float .f32 x] w fun e w' => ∃ r n, e = .returned (.float .f32 r) ∧ Narrow (h2) r ∧ w' = w.drewN n := by
  subst h2e
  go_enter Try.func24, Try.ntmps24
  go_wp2_with (first | (refine wpList_fopE rfl rfl rfl rfl rfl (by simp only [*]) ?_) | (go_at_call 64; refine (math_Abs _ (by assumption) _).mono ?_; rintro e w' ⟨rfl, rfl⟩) | (go_at_call 35; refine (impl_IsFinite _ _).mono ?_; rintro e w' ⟨rfl, nn, rfl⟩))
  clear fy fx cy1 cy2 cx1 cx2 zx zy hq hy64 hx64 hA hB
  go_loop [7, 42] (fun su sv => ∃ i : Nat, i ≤ 3 ∧ sv = .int .i64 (i : Int) ∧ su = .float .f64 (tst t0 i)) (fun su sv => 3 - (intOf sv).toNat)
  case atStart => exact ⟨0, by omega, rfl, rfl⟩
  case round =>
    obtain ⟨i, hi, rfl, rfl⟩ := hrel
    by_cases hi3 : i < 3
    · obtain ⟨s1, s2, s3, s4, s5⟩ := tst_nums bT.out hi3
      have e1 : fop .quo .f64 (tst t0 i) (fop .add .f64 4607182418800017408 (fsq (fop .add .f64 4607182418800017408 (fop .mul .f64 (tst t0 i) (tst t0 i))))) = tst t0 (i + 1) := rfl
      clear hT nT hu nu hp np hp2 np2 h0e nh0 h1e nh1 
      go_wp2_with (first | (refine wpList_fopE rfl rfl rfl rfl rfl (by simp only [*]) ?_) | (go_at_call 65; refine (math_SqrtE _ (by simp only [*]) _).mono ?_; rintro e w' ⟨rfl, rfl⟩))
      go_round
      case rel => exact ⟨i + 1, by omega, by go_num, rfl⟩
      case measure => simp [intOf]; omega
    · obtain rfl : i = 3 := by omega
      go_wp2_with (first | (refine wpList_fopE rfl rfl rfl rfl rfl (by simp only [*]) ?_))
      go_loop [9, 10] (fun su sv => ∃ i : Nat, i ≤ 8 ∧ sv = .float .f64 (kfI (15 - 2 * (i : Int))) ∧ su = .float .f64 (aser u i)) (fun su sv => ameas sv)
      case atStart => exact ⟨0, by omega, by rfl, rfl⟩
      case round =>
        obtain ⟨i, hi, rfl, rfl⟩ := hrel
        by_cases hi8 : i < 8
        · obtain ⟨s1, s2, s3⟩ := aser_nums bu.out hi8
          have e1 : fop .sub .f64 (fop .quo .f64 4607182418800017408 (kfI (15 - 2 * (i : Int)))) (fop .mul .f64 u (aser u i)) = aser u (i + 1) := rfl
          obtain ⟨k1, k2, k3⟩ := ak_facts i hi8
          clear hT nT hu nu hp np hp2 np2 h0e nh0 h1e nh1 
          go_wp2_with (first | (refine wpList_fopE rfl rfl rfl rfl rfl (by simp only [*]) ?_))
          go_round
          case rel => exact ⟨i + 1, by omega, by first | rfl | (congr 2; omega) | go_num, rfl⟩
          case measure => exact ak_less i hi8
        · obtain rfl : i = 8 := by omega
          have k1 := ak_last
          go_wp2_with (first | (refine wpList_fopE rfl rfl rfl rfl rfl (by simp only [*]) ?_) | (refine wpList_narrow some64 Try.underlying23 rfl rfl rfl ?_; intro _ _ _))
          go_ret
          exact ⟨_, rfl, by assumption, _, rfl⟩
set_option maxHeartbeats 2000000 in
theorem spec_ang_1011 (y x : Nat) (hy64 : y < 18446744073709551616) (hx64 : x < 18446744073709551616) (a b t0 u p p2 h0 h1 h2 : Nat)
    (t1 : (FloatKind.f64.format.order a b == some .gt) = true) (hT : fop .quo .f64 b a = t0) (nT : nanB .f64 t0 = false) (bT : Hid (Bd 1023 t0))
    (hu : fop .mul .f64 (tst t0 3) (tst t0 3) = u) (nu : nanB .f64 u = false) (bu : Hid (Bd 1029 u)) (hp : fop .mul .f64 (tst t0 3) (aser u 8) = p) (np : nanB .f64 p = false)
    (hp2 : fop .mul .f64 4620693217682128896 p = p2) (np2 : nanB .f64 p2 = false) (h0e : fop .quo .f64 p2 4618760256179416344 = h0) (nh0 : nanB .f64 h0 = false)
    (h1e : fop .sub .f64 4598175219545276416 h0 = h1) (nh1 : nanB .f64 h1 = false) (h2e : h2 = h1)
    (hA : rungAt double y = a) (hB : rungAt double x = b) (sy : fop .sub .f64 y y = 0) (sx : ∀ w, fval .sub .f64 x x w = 0) (sx2 : fcnt .sub .f64 x x = 0) (n0 : nanB .f64 0 = false) (h00 : FloatKind.f64.format.order 0 0 = some .eq)
    (zx : (FloatKind.f64.format.order x 0 == some .eq) = true) (zy : (FloatKind.f64.format.order y 0 == some .eq) = false) (nx : (FloatKind.f64.format.order x 0 == some .lt) = false) (ny : (FloatKind.f64.format.order y 0 == some .lt) = true) (w : World) :
    Calls Try.prog 101 #[.float .f64 y, .float .f64 x] w fun e w' => e = .returned (.float .f64 (Op.negFloat .f64 h2)) ∧ w = w' := by
  subst h2e
  go_enter Try.func101, Try.ntmps101
  go_wp2_with (first | (refine wpList_fopE rfl rfl rfl rfl rfl (by simp only [*]) ?_) | (go_at_call 64; refine (math_Abs _ (by assumption) _).mono ?_; rintro e w' ⟨rfl, rfl⟩))
  clear sy sx sx2 h00 zx zy hy64 hx64 hA hB
  go_loop [8, 9] (fun su sv => ∃ i : Nat, i ≤ 3 ∧ sv = .int .i64 (i : Int) ∧ su = .float .f64 (tst t0 i)) (fun su sv => 3 - (intOf sv).toNat)
  case atStart => exact ⟨0, by omega, rfl, rfl⟩
  case round =>
    obtain ⟨i, hi, rfl, rfl⟩ := hrel
    by_cases hi3 : i < 3
    · obtain ⟨s1, s2, s3, s4, s5⟩ := tst_nums bT.out hi3
      have e1 : fop .quo .f64 (tst t0 i) (fop .add .f64 4607182418800017408 (fsq (fop .add .f64 4607182418800017408 (fop .mul .f64 (tst t0 i) (tst t0 i))))) = tst t0 (i + 1) := rfl
      clear hT nT hu nu hp np hp2 np2 h0e nh0 h1e nh1 
      go_wp2_with (first | (refine wpList_fopE rfl rfl rfl rfl rfl (by simp only [*]) ?_) | (go_at_call 65; refine (math_SqrtE _ (by simp only [*]) _).mono ?_; rintro e w' ⟨rfl, rfl⟩))
      go_round
      case rel => exact ⟨i + 1, by omega, by go_num, rfl⟩
      case measure => simp [intOf]; omega
    · obtain rfl : i = 3 := by omega
      go_wp2_with (first | (refine wpList_fopE rfl rfl rfl rfl rfl (by simp only [*]) ?_))
      go_loop [11, 12] (fun su sv => ∃ i : Nat, i ≤ 8 ∧ sv = .int .i64 (15 - 2 * (i : Int)) ∧ su = .float .f64 (aser u i)) (fun su sv => (intOf sv + 2).toNat)
      case atStart => exact ⟨0, by omega, by rfl, rfl⟩
      case round =>
        obtain ⟨i, hi, rfl, rfl⟩ := hrel
        by_cases hi8 : i < 8
        · obtain ⟨s1, s2, s3⟩ := aser_nums bu.out hi8
          have e1 : fop .sub .f64 (fop .quo .f64 4607182418800017408 (kfI (15 - 2 * (i : Int)))) (fop .mul .f64 u (aser u i)) = aser u (i + 1) := rfl
          have hk1 : (1 : Int) ≤ 15 - 2 * (i : Int) := by omega
          have hcv : floatOfInt .f64 (15 - 2 * (i : Int)) = kfI (15 - 2 * (i : Int)) := rfl
          clear hT nT hu nu hp np hp2 np2 h0e nh0 h1e nh1 
          go_wp2_with (first | (refine wpList_fopE rfl rfl rfl rfl rfl (by simp only [*]) ?_))
          go_round
          case rel => exact ⟨i + 1, by omega, by first | (congr 1; omega) | go_num, rfl⟩
          case measure => simp [intOf]; omega
        · obtain rfl : i = 8 := by omega
          go_wp2_with (first | (refine wpList_fopE rfl rfl rfl rfl rfl (by simp only [*]) ?_))
          go_ret
          exact ⟨rfl, rfl⟩
set_option maxHeartbeats 2000000 in
theorem impl_ang_1011 (y x Y X : Nat) (hy64 : Y < 18446744073709551616) (hx64 : X < 18446744073709551616) (fy : finB y = true) (fx : finB x = true) (cy1 : ∀ w, cval .f32 y .f64 w = Y) (cy2 : ccnt .f32 y .f64 = 0) (cx1 : ∀ w, cval .f32 x .f64 w = X) (cx2 : ccnt .f32 x .f64 = 0) (a b t0 u p p2 h0 h1 h2 : Nat)
    (t1 : (FloatKind.f64.format.order a b == some .gt) = true) (hT : fop .quo .f64 b a = t0) (nT : nanB .f64 t0 = false) (hq : nanB .f64 (fop .quo .f64 a b) = false) (bT : Hid (Bd 1023 t0))
    (hu : fop .mul .f64 (tst t0 3) (tst t0 3) = u) (nu : nanB .f64 u = false) (bu : Hid (Bd 1029 u)) (hp : fop .mul .f64 (tst t0 3) (aser u 8) = p) (np : nanB .f64 p = false)
    (hp2 : fop .mul .f64 4620693217682128896 p = p2) (np2 : nanB .f64 p2 = false) (h0e : fop .quo .f64 p2 4618760256179416344 = h0) (nh0 : nanB .f64 h0 = false)
    (h1e : fop .sub .f64 4598175219545276416 h0 = h1) (nh1 : nanB .f64 h1 = false) (h2e : h2 = h1)
    (hA : rungAt double Y = a) (hB : rungAt double X = b)
    (zx : (FloatKind.f32.format.order x 0 == some .eq) = true) (zy : (FloatKind.f32.format.order y 0 == some .eq) = false) (nx : (FloatKind.f32.format.order x 0 == some .lt) = false) (ny : (FloatKind.f32.format.order y 0 == some .lt) = true) (w : World) :
    Calls Try.prog 24 #[.float .f32 y, .float .f32 x] w fun e w' => ∃ r n, e = .returned (.float .f32 r) ∧ Narrow (Op.negFloat .f64 h2) r ∧ w' = w.drewN n := by
  subst h2e
  go_enter Try.func24, Try.ntmps24
  go_wp2_with (first | (refine wpList_fopE rfl rfl rfl rfl rfl (by simp only [*]) ?_) | (go_at_call 64; refine (math_Abs _ (by assumption) _).mono ?_; rintro e w' ⟨rfl, rfl⟩) | (go_at_call 35; refine (impl_IsFinite _ _).mono ?_; rintro e w' ⟨rfl, nn, rfl⟩))
  clear fy fx cy1 cy2 cx1 cx2 zx zy hq hy64 hx64 hA hB
  go_loop [7, 42] (fun su sv => ∃ i : Nat, i ≤ 3 ∧ sv = .int .i64 (i : Int) ∧ su = .float .f64 (tst t0 i)) (fun su sv => 3 - (intOf sv).toNat)
  case atStart => exact ⟨0, by omega, rfl, rfl⟩
  case round =>
    obtain ⟨i, hi, rfl, rfl⟩ := hrel
    by_cases hi3 : i < 3
    · obtain ⟨s1, s2, s3, s4, s5⟩ := tst_nums bT.out hi3
      have e1 : fop .quo .f64 (tst t0 i) (fop .add .f64 4607182418800017408 (fsq (fop .add .f64 4607182418800017408 (fop .mul .f64 (tst t0 i) (tst t0 i))))) = tst t0 (i + 1) := rfl
      clear hT nT hu nu hp np hp2 np2 h0e nh0 h1e nh1 
      go_wp2_with (first | (refine wpList_fopE rfl rfl rfl rfl rfl (by simp only [*]) ?_) | (go_at_call 65; refine (math_SqrtE _ (by simp only [*]) _).mono ?_; rintro e w' ⟨rfl, rfl⟩))
      go_round
      case rel => exact ⟨i + 1, by omega, by go_num, rfl⟩
      case measure => simp [intOf]; omega
    · obtain rfl : i = 3 := by omega
      go_wp2_with (first | (refine wpList_fopE rfl rfl rfl rfl rfl (by simp only [*]) ?_))
      go_loop [9, 10] (fun su sv => ∃ i : Nat, i ≤ 8 ∧ sv = .float .f64 (kfI (15 - 2 * (i : Int))) ∧ su = .float .f64 (aser u i)) (fun su sv => ameas sv)
      case atStart => exact ⟨0, by omega, by rfl, rfl⟩
      case round =>
        obtain ⟨i, hi, rfl, rfl⟩ := hrel
        by_cases hi8 : i < 8
        · obtain ⟨s1, s2, s3⟩ := aser_nums bu.out hi8
          have e1 : fop .sub .f64 (fop .quo .f64 4607182418800017408 (kfI (15 - 2 * (i : Int)))) (fop .mul .f64 u (aser u i)) = aser u (i + 1) := rfl
          obtain ⟨k1, k2, k3⟩ := ak_facts i hi8
          clear hT nT hu nu hp np hp2 np2 h0e nh0 h1e nh1 
          go_wp2_with (first | (refine wpList_fopE rfl rfl rfl rfl rfl (by simp only [*]) ?_))
          go_round
          case rel => exact ⟨i + 1, by omega, by first | rfl | (congr 2; omega) | go_num, rfl⟩
          case measure => exact ak_less i hi8
        · obtain rfl : i = 8 := by omega
          have k1 := ak_last
          go_wp2_with (first | (refine wpList_fopE rfl rfl rfl rfl rfl (by simp only [*]) ?_) | (refine wpList_narrow some64 Try.underlying23 rfl rfl rfl ?_; intro _ _ _))
          go_ret
          exact ⟨_, rfl, by assumption, _, rfl⟩
end Go.Proofs.Ytcmmafkmfahijaa
