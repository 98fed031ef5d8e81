/- The logarithm: the program and the reference compute one plain function. Conditions: the bits are those of a 32-bit number. -/
import Derived.Test.YtlampebmbpdloaaLogSer
namespace Go.Proofs.Ytlampebmbpdloaa
open Go.RowKit
open Ieee (single double)

def fbits : Value → Nat
  | .float _ b => b
  | _ => 0
/-- The counter of the program's series. -/
def lmeas : Value → Nat
  | .float _ b => ((List.range 14).filter fun (i : Nat) => b == kfI (25 - 2 * (13 - (i : Int)))).foldl (fun a i => a + i) 0
  | _ => 0
theorem math_IsInf_no {y : Nat} (h : FloatKind.f64.format.order y 9218868437227405311 = some .lt) (w : World) : Calls Try.prog 74 #[.float .f64 y, .int .i64 1] w fun e w' => e = .returned (.bool false) ∧ w = w' := by
  go_enter Try.func74, Try.ntmps74
  go_wp2_with fail
  go_ret
  exact ⟨rfl, rfl⟩
theorem math_IsInf_yes {y : Nat} (h : FloatKind.f64.format.order y 9218868437227405311 = some .gt) (w : World) : Calls Try.prog 74 #[.float .f64 y, .int .i64 1] w fun e w' => e = .returned (.bool true) ∧ w = w' := by
  go_enter Try.func74, Try.ntmps74
  go_wp2_with fail
  go_ret
  exact ⟨rfl, rfl⟩
theorem lk_less : ∀ i : Nat, i < 13 → lmeas (.float .f64 (kfI (25 - 2 * ((i + 1 : Nat) : Int)))) < lmeas (.float .f64 (kfI (25 - 2 * (i : Int)))) := by decide +kernel
theorem lk_facts : ∀ i : Nat, i < 13 → (FloatKind.f64.format.order (kfI (25 - 2 * (i : Int))) 4607182418800017408 == some .gt || FloatKind.f64.format.order (kfI (25 - 2 * (i : Int))) 4607182418800017408 == some .eq) = true ∧ fop .sub .f64 (kfI (25 - 2 * (i : Int))) 4611686018427387904 = kfI (25 - 2 * ((i + 1 : Nat) : Int)) ∧ nanB .f64 (kfI (25 - 2 * ((i + 1 : Nat) : Int))) = false := by decide +kernel
theorem lk_last : (FloatKind.f64.format.order (kfI (25 - 2 * ((13 : Nat) : Int))) 4607182418800017408 == some .gt || FloatKind.f64.format.order (kfI (25 - 2 * ((13 : Nat) : Int))) 4607182418800017408 == some .eq) = false := by decide +kernel

set_option maxHeartbeats 2000000 in
theorem spec_log_core {y : Nat} (h1 : 874 * 4503599627370496 ≤ y) (h2 : y ≤ 1151 * 4503599627370496) (o1 : FloatKind.f64.format.order y y = some .eq) (ho0 : FloatKind.f64.format.order y 0 = some .gt) (o2 : FloatKind.f64.format.order y 9218868437227405311 = some .lt) (w : World) :
    Calls Try.prog 73 #[.float .f64 y] w fun e w' => e = .returned (.float .f64 (logW y)) ∧ w = w' := by
  go_enter Try.func73, Try.ntmps73
  go_wp2_with (first | (refine wpList_fopE rfl rfl rfl rfl rfl (by simp only [*]) ?_) | (go_at_call 74; refine (math_IsInf_no o2 _).mono ?_; rintro e w' ⟨rfl, rfl⟩))
  go_loop [0, 3] (fun su sv => ∃ (z : Nat) (e : Int), (z : Int) + e * 4503599627370496 = y ∧ 0 ≤ e ∧ (e = 0 ∨ 4604930618986332160 ≤ z) ∧ su = .float .f64 z ∧ sv = .int .i64 (e)) (fun su sv => fbits su)
  case atStart => exact ⟨y, 0, by omega, by omega, .inl rfl, rfl, rfl⟩
  case round =>
    obtain ⟨z, e, hz, he0, hzb, rfl, rfl⟩ := hrel
    have hz4 : 4503599627370496 ≤ z := by omega
    have hzi : z < 9218868437227405312 := by omega
    by_cases hlt : 4609434218613702656 ≤ z
    · have ht := pos_ge (y := z) (c := 4609434218613702656) hzi (by omega)
      rw [decide_eq_true hlt] at ht
      have hh := half_num (y := z) (by omega) hzi
      obtain ⟨z', hz'⟩ : ∃ z', z' = z - 4503599627370496 := ⟨_, rfl⟩
      rw [← hz'] at hh
      have hn : nanB .f64 z' = false := nan_fin (by rw [pos_rung (by omega), double_inf]; omega)
      have he1 : -180 ≤ e := by omega
      have he2 : e < 180 := by omega
      have Hz := Lib.hid hz
      have Hz' := Lib.hid hz'
      clear hz hz'
      go_wp2_with (first | (refine wpList_fopE rfl rfl rfl rfl rfl (by simp only [*]) ?_))
      go_round
      case rel =>
        have hz := Hz.out
        have hz' := Hz'.out
        exact ⟨z', e + 1, by omega, by omega, .inr (by omega), rfl, by first | rfl | go_num⟩
      case measure => have hz' := Hz'.out; first | omega | (simp [fbits]; omega)
    · have ht := pos_ge (y := z) (c := 4609434218613702656) hzi (by omega)
      rw [decide_eq_false hlt] at ht
      have hzz : (z : Int) + e * 4503599627370496 = y ∧ -180 < e ∧ e < 180 := ⟨hz, by omega, by omega⟩
      have Hs := Lib.hid hzz
      clear hz hzz he0 hzb
      go_wp2_with (first | (refine wpList_fopE rfl rfl rfl rfl rfl (by simp only [*]) ?_))
      clear ht
      go_loop [0, 3] (fun su sv => ∃ (z1 : Nat) (e1 : Int), ((z1 : Int) + e1 * 4503599627370496 = y ∧ 4503599627370496 ≤ z1 ∧ z1 < 4609434218613702656 ∧ e1 ≤ 180) ∧ su = .float .f64 z1 ∧ sv = .int .i64 (e1)) (fun su sv => 4604930618986332160 - fbits su)
      case atStart => exact ⟨z, e, ⟨Hs.out.1, hz4, by omega, by have := Hs.out; omega⟩, rfl, rfl⟩
      case round =>
        clear Hs hlt hzi hz4
        obtain ⟨z, e, hz, rfl, rfl⟩ := hrel
        obtain ⟨hz, hz4, hz15, he180⟩ := hz
        have hzi : z < 9218868437227405312 := by omega
        by_cases hlt : z < 4604930618986332160
        · have ht := pos_lt (y := z) (c := 4604930618986332160) hzi (by omega)
          rw [decide_eq_true hlt] at ht
          have hh := double_num (y := z) hz4 (by omega)
          obtain ⟨z', hz'⟩ : ∃ z', z' = z + 4503599627370496 := ⟨_, rfl⟩
          rw [← hz'] at hh
          have hn : nanB .f64 z' = false := nan_fin (by rw [pos_rung (by omega), double_inf]; omega)
          have he1 : -180 < e := by omega
          have he2 : e ≤ 180 := by omega
          have Hz := Lib.hid hz
          have Hz' := Lib.hid hz'
          clear hz hz'
          go_wp2_with (first | (refine wpList_fopE rfl rfl rfl rfl rfl (by simp only [*]) ?_))
          go_round
          case rel =>
            have hz := Hz.out
            have hz' := Hz'.out
            exact ⟨z', e - 1, ⟨by omega, by omega, by omega, by omega⟩, rfl, by first | rfl | go_num⟩
          case measure => have hz' := Hz'.out; first | omega | (simp [fbits]; omega)
        · have ht := pos_lt (y := z) (c := 4604930618986332160) hzi (by omega)
          rw [decide_eq_false hlt] at ht
          obtain ⟨c1, c2⟩ := cut_uniq (y := y) (z := z) (e := e) (by omega) hz15 hz
          have hL0 : logW y = lO z e := by unfold logW; rw [c1, c2]
          have hL := Lib.hid hL0
          have he1 : -180 ≤ e := by omega
          have he2 : e ≤ 180 := by omega
          clear hL0 c1 c2 hz hlt h1 h2 o1 o2 ho0
          obtain ⟨p1, q1⟩ : ∃ p, fop .sub .f64 z 4607182418800017408 = p := ⟨_, rfl⟩
          obtain ⟨p2, q2⟩ : ∃ p, fop .add .f64 z 4607182418800017408 = p := ⟨_, rfl⟩
          obtain ⟨p3, q3⟩ : ∃ p, fop .quo .f64 p1 p2 = p := ⟨_, rfl⟩
          obtain ⟨u, q4⟩ : ∃ p, fop .mul .f64 p3 p3 = p := ⟨_, rfl⟩
          obtain ⟨p5, q5⟩ : ∃ p, fop .mul .f64 p3 (lser u 13) = p := ⟨_, rfl⟩
          obtain ⟨p6, q6⟩ : ∃ p, fop .mul .f64 4611686018427387904 p5 = p := ⟨_, rfl⟩
          obtain ⟨p7, q7⟩ : ∃ p, fop .mul .f64 (kfI e) 4604418534313441775 = p := ⟨_, rfl⟩
          obtain ⟨p8, q8⟩ : ∃ p, fop .add .f64 p6 p7 = p := ⟨_, rfl⟩
          have n1 : nanB .f64 p1 = false := by subst q1; exact bd_not_nan (by omega) (lnum_bd hz4 hz15)
          have n2 : nanB .f64 p2 = false := by subst q2; exact bd_not_nan (by omega) ((lden_ok hz4 hz15).1.bd (by omega))
          have n3 : nanB .f64 p3 = false := by subst q3 q2 q1; exact bd_not_nan (by omega) (lS_bd hz4 hz15)
          have n4 : nanB .f64 u = false := by subst q4 q3 q2 q1; exact bd_not_nan (by omega) (lU_bd hz4 hz15)
          have b4 : Hid (Bd 1029 u) := by subst q4 q3 q2 q1; exact Lib.hid (lU_bd hz4 hz15)
          have n5 : nanB .f64 p5 = false := by subst q5 q4 q3 q2 q1; exact bd_not_nan (by omega) (lP_bd hz4 hz15)
          have n6 : nanB .f64 p6 = false := by subst q6 q5 q4 q3 q2 q1; exact bd_not_nan (by omega) (lT_bd hz4 hz15)
          have n7 : nanB .f64 p7 = false := by subst q7; exact bd_not_nan (by omega) (lE_bd he1 he2)
          have n8 : nanB .f64 p8 = false := by subst q8 q7 q6 q5 q4 q3 q2 q1; exact bd_not_nan (by omega) (lO_bd hz4 hz15 he1 he2)
          have hres : Hid (p8 = lO z e) := by subst q8 q7 q6 q5 q4 q3 q2 q1; exact Lib.hid rfl
          have hcv : floatOfInt .f64 e = kfI e := rfl
          go_wp2_with (first | (refine wpList_fopE rfl rfl rfl rfl rfl (by simp only [*]) ?_))
          clear ht q1 q2 q3 q4 n1 n2
          go_loop [6, 7] (fun su sv => ∃ i : Nat, i ≤ 13 ∧ sv = .int .i64 (25 - 2 * (i : Int)) ∧ su = .float .f64 (lser u i)) (fun su sv => (intOf sv + 2).toNat)
          case atStart => exact ⟨0, by omega, rfl, rfl⟩
          case round =>
            obtain ⟨i, hi, rfl, rfl⟩ := hrel
            by_cases hi13 : i < 13
            · obtain ⟨s1, s2, s3⟩ := lser_nums b4.out hi13
              have e1 : fop .add .f64 (fop .quo .f64 4607182418800017408 (kfI (25 - 2 * (i : Int)))) (fop .mul .f64 u (lser u i)) = lser u (i + 1) := rfl
              have hk1 : (1 : Int) ≤ 25 - 2 * (i : Int) := by omega
              have hcv : floatOfInt .f64 (25 - 2 * (i : Int)) = kfI (25 - 2 * (i : Int)) := rfl
              go_wp2_with (first | (refine wpList_fopE rfl rfl rfl rfl rfl (by simp only [*]) ?_))
              go_round
              case rel => exact ⟨i + 1, by omega, by first | (congr 1; omega) | go_num, rfl⟩
              case measure => simp [intOf]; omega
            · obtain rfl : i = 13 := by omega
              go_wp2_with (first | (refine wpList_fopE rfl rfl rfl rfl rfl (by simp only [*]) ?_))
              go_ret
              exact ⟨ret_float (hres.out.trans hL.out.symm), rfl⟩
theorem spec_log_nan (y : Nat) (h : FloatKind.f64.format.order y y = none ∨ FloatKind.f64.format.order y 0 = some .lt) (w : World) :
    Calls Try.prog 73 #[.float .f64 y] w fun e w' => ∃ r n, e = .returned (.float .f64 r) ∧ nanB .f64 r = true ∧ w' = w.drewN n := by
  by_cases h1 : FloatKind.f64.format.order y y = none
  · clear h
    go_enter Try.func73, Try.ntmps73
    go_wp2_with (go_at_call 67; go_in)
    go_ret
    exact ⟨_, 0, rfl, by decide +kernel, rfl⟩
  · have h2 : FloatKind.f64.format.order y 0 = some .lt := by rcases h with h | h; exact absurd h h1; exact h
    have h3 : FloatKind.f64.format.order y y = some .eq := by
      have := order_self .f64 y
      rw [this] at h1 ⊢
      split at h1
      · exact absurd rfl h1
      · rename_i hq; rw [if_neg hq]
    clear h h1
    go_enter Try.func73, Try.ntmps73
    go_wp2_with (go_at_call 67; go_in)
    go_ret
    exact ⟨_, 0, rfl, by decide +kernel, rfl⟩
theorem spec_log_zero (y : Nat) (h1 : FloatKind.f64.format.order y y = some .eq) (h2 : FloatKind.f64.format.order y 0 = some .eq) (w : World) :
    Calls Try.prog 73 #[.float .f64 y] w fun e w' => e = .returned (.float .f64 18442240474082181120) ∧ w = w' := by
  go_enter Try.func73, Try.ntmps73
  go_wp2_with (go_at_call 68; go_in)
  go_ret
  exact ⟨rfl, rfl⟩
theorem spec_log_inf (y : Nat) (h1 : FloatKind.f64.format.order y y = some .eq) (h2 : FloatKind.f64.format.order y 0 = some .gt) (h3 : FloatKind.f64.format.order y 9218868437227405311 = some .gt) (w : World) :
    Calls Try.prog 73 #[.float .f64 y] w fun e w' => e = .returned (.float .f64 y) ∧ w = w' := by
  go_enter Try.func73, Try.ntmps73
  go_wp2_with (go_at_call 74; refine (math_IsInf_yes h3 _).mono ?_; rintro e w' ⟨rfl, rfl⟩)
  go_ret
  exact ⟨rfl, rfl⟩
set_option maxHeartbeats 2000000 in
theorem impl_log_core {x y : Nat} (hfin : finB x = true) (p1 : FloatKind.f32.format.order x x = some .eq) (p2 : FloatKind.f32.format.order x 0 = some .gt) (c1 : ∀ w, cval .f32 x .f64 w = y) (c2 : ccnt .f32 x .f64 = 0) (h1 : 874 * 4503599627370496 ≤ y) (h2 : y ≤ 1151 * 4503599627370496) (w : World) :
    Calls Try.prog 41 #[.float .f32 x] w fun e w' => ∃ r n, e = .returned (.float .f32 r) ∧ Narrow (logW y) r ∧ w' = w.drewN n := by
  go_enter Try.func41, Try.ntmps41
  go_wp2_with (first | (refine wpList_fopE rfl rfl rfl rfl rfl (by simp only [*]) ?_) | (go_at_call 60; refine (impl_IsFinite _ _).mono ?_; rintro e w' ⟨rfl, nn, rfl⟩))
  clear hfin p1 p2 c1 c2
  go_loop [3, 4] (fun su sv => ∃ (z : Nat) (e : Int), (z : Int) + e * 4503599627370496 = y ∧ 0 ≤ e ∧ (e = 0 ∨ 4604930618986332160 ≤ z) ∧ su = .float .f64 z ∧ sv = .float .f64 (kfI (e))) (fun su sv => fbits su)
  case atStart => exact ⟨y, 0, by omega, by omega, .inl rfl, rfl, by rw [kfI_zero]⟩
  case round =>
    obtain ⟨z, e, hz, he0, hzb, rfl, rfl⟩ := hrel
    have hz4 : 4503599627370496 ≤ z := by omega
    have hzi : z < 9218868437227405312 := by omega
    by_cases hlt : 4609434218613702656 ≤ z
    · have ht := pos_ge (y := z) (c := 4609434218613702656) hzi (by omega)
      rw [decide_eq_true hlt] at ht
      have hh := half_num (y := z) (by omega) hzi
      obtain ⟨z', hz'⟩ : ∃ z', z' = z - 4503599627370496 := ⟨_, rfl⟩
      rw [← hz'] at hh
      have hn : nanB .f64 z' = false := nan_fin (by rw [pos_rung (by omega), double_inf]; omega)
      have he := kfI_inc (e := e) (by omega) (by omega)
      have hen := (kfI_ok (e := e + 1) (by omega) (by omega)).1
      have he1 : -180 ≤ e := by omega
      have he2 : e < 180 := by omega
      have Hz := Lib.hid hz
      have Hz' := Lib.hid hz'
      clear hz hz'
      go_wp2_with (first | (refine wpList_fopE rfl rfl rfl rfl rfl (by simp only [*]) ?_))
      go_round
      case rel =>
        have hz := Hz.out
        have hz' := Hz'.out
        exact ⟨z', e + 1, by omega, by omega, .inr (by omega), rfl, by first | rfl | go_num⟩
      case measure => have hz' := Hz'.out; first | omega | (simp [fbits]; omega)
    · have ht := pos_ge (y := z) (c := 4609434218613702656) hzi (by omega)
      rw [decide_eq_false hlt] at ht
      have hzz : (z : Int) + e * 4503599627370496 = y ∧ -180 < e ∧ e < 180 := ⟨hz, by omega, by omega⟩
      have Hs := Lib.hid hzz
      clear hz hzz he0 hzb
      go_wp2_with (first | (refine wpList_fopE rfl rfl rfl rfl rfl (by simp only [*]) ?_))
      clear ht
      go_loop [3, 4] (fun su sv => ∃ (z1 : Nat) (e1 : Int), ((z1 : Int) + e1 * 4503599627370496 = y ∧ 4503599627370496 ≤ z1 ∧ z1 < 4609434218613702656 ∧ e1 ≤ 180) ∧ su = .float .f64 z1 ∧ sv = .float .f64 (kfI (e1))) (fun su sv => 4604930618986332160 - fbits su)
      case atStart => exact ⟨z, e, ⟨Hs.out.1, hz4, by omega, by have := Hs.out; omega⟩, rfl, rfl⟩
      case round =>
        clear Hs hlt hzi hz4
        obtain ⟨z, e, hz, rfl, rfl⟩ := hrel
        obtain ⟨hz, hz4, hz15, he180⟩ := hz
        have hzi : z < 9218868437227405312 := by omega
        by_cases hlt : z < 4604930618986332160
        · have ht := pos_lt (y := z) (c := 4604930618986332160) hzi (by omega)
          rw [decide_eq_true hlt] at ht
          have hh := double_num (y := z) hz4 (by omega)
          obtain ⟨z', hz'⟩ : ∃ z', z' = z + 4503599627370496 := ⟨_, rfl⟩
          rw [← hz'] at hh
          have hn : nanB .f64 z' = false := nan_fin (by rw [pos_rung (by omega), double_inf]; omega)
          have he := kfI_dec (e := e) (by omega) (by omega)
          have hen := (kfI_ok (e := e - 1) (by omega) (by omega)).1
          have he1 : -180 < e := by omega
          have he2 : e ≤ 180 := by omega
          have Hz := Lib.hid hz
          have Hz' := Lib.hid hz'
          clear hz hz'
          go_wp2_with (first | (refine wpList_fopE rfl rfl rfl rfl rfl (by simp only [*]) ?_))
          go_round
          case rel =>
            have hz := Hz.out
            have hz' := Hz'.out
            exact ⟨z', e - 1, ⟨by omega, by omega, by omega, by omega⟩, rfl, by first | rfl | go_num⟩
          case measure => have hz' := Hz'.out; first | omega | (simp [fbits]; omega)
        · have ht := pos_lt (y := z) (c := 4604930618986332160) hzi (by omega)
          rw [decide_eq_false hlt] at ht
          obtain ⟨c1, c2⟩ := cut_uniq (y := y) (z := z) (e := e) (by omega) hz15 hz
          have hL0 : logW y = lO z e := by unfold logW; rw [c1, c2]
          have hL := Lib.hid hL0
          have he1 : -180 ≤ e := by omega
          have he2 : e ≤ 180 := by omega
          clear hL0 c1 c2 hz hlt h1 h2 
          obtain ⟨p1, q1⟩ : ∃ p, fop .sub .f64 z 4607182418800017408 = p := ⟨_, rfl⟩
          obtain ⟨p2, q2⟩ : ∃ p, fop .add .f64 z 4607182418800017408 = p := ⟨_, rfl⟩
          obtain ⟨p3, q3⟩ : ∃ p, fop .quo .f64 p1 p2 = p := ⟨_, rfl⟩
          obtain ⟨u, q4⟩ : ∃ p, fop .mul .f64 p3 p3 = p := ⟨_, rfl⟩
          obtain ⟨p5, q5⟩ : ∃ p, fop .mul .f64 p3 (lser u 13) = p := ⟨_, rfl⟩
          obtain ⟨p6, q6⟩ : ∃ p, fop .mul .f64 4611686018427387904 p5 = p := ⟨_, rfl⟩
          obtain ⟨p7, q7⟩ : ∃ p, fop .mul .f64 (kfI e) 4604418534313441775 = p := ⟨_, rfl⟩
          obtain ⟨p8, q8⟩ : ∃ p, fop .add .f64 p6 p7 = p := ⟨_, rfl⟩
          have n1 : nanB .f64 p1 = false := by subst q1; exact bd_not_nan (by omega) (lnum_bd hz4 hz15)
          have n2 : nanB .f64 p2 = false := by subst q2; exact bd_not_nan (by omega) ((lden_ok hz4 hz15).1.bd (by omega))
          have n3 : nanB .f64 p3 = false := by subst q3 q2 q1; exact bd_not_nan (by omega) (lS_bd hz4 hz15)
          have n4 : nanB .f64 u = false := by subst q4 q3 q2 q1; exact bd_not_nan (by omega) (lU_bd hz4 hz15)
          have b4 : Hid (Bd 1029 u) := by subst q4 q3 q2 q1; exact Lib.hid (lU_bd hz4 hz15)
          have n5 : nanB .f64 p5 = false := by subst q5 q4 q3 q2 q1; exact bd_not_nan (by omega) (lP_bd hz4 hz15)
          have n6 : nanB .f64 p6 = false := by subst q6 q5 q4 q3 q2 q1; exact bd_not_nan (by omega) (lT_bd hz4 hz15)
          have n7 : nanB .f64 p7 = false := by subst q7; exact bd_not_nan (by omega) (lE_bd he1 he2)
          have n8 : nanB .f64 p8 = false := by subst q8 q7 q6 q5 q4 q3 q2 q1; exact bd_not_nan (by omega) (lO_bd hz4 hz15 he1 he2)
          have hres : Hid (p8 = lO z e) := by subst q8 q7 q6 q5 q4 q3 q2 q1; exact Lib.hid rfl
          go_wp2_with (first | (refine wpList_fopE rfl rfl rfl rfl rfl (by simp only [*]) ?_))
          clear ht q1 q2 q3 q4 n1 n2
          go_loop [7, 8] (fun su sv => ∃ i : Nat, i ≤ 13 ∧ sv = .float .f64 (kfI (25 - 2 * (i : Int))) ∧ su = .float .f64 (lser u i)) (fun su sv => lmeas sv)
          case atStart => exact ⟨0, by omega, by rfl, rfl⟩
          case round =>
            obtain ⟨i, hi, rfl, rfl⟩ := hrel
            by_cases hi13 : i < 13
            · obtain ⟨s1, s2, s3⟩ := lser_nums b4.out hi13
              have e1 : fop .add .f64 (fop .quo .f64 4607182418800017408 (kfI (25 - 2 * (i : Int)))) (fop .mul .f64 u (lser u i)) = lser u (i + 1) := rfl
              obtain ⟨g1, g2, g3⟩ := lk_facts i hi13
              go_wp2_with (first | (refine wpList_fopE rfl rfl rfl rfl rfl (by simp only [*]) ?_))
              go_round
              case rel => exact ⟨i + 1, by omega, by first | rfl | (congr 2; omega) | go_num, rfl⟩
              case measure => exact lk_less i hi13
            · obtain rfl : i = 13 := by omega
              have g1 := lk_last
              go_wp2_with (first | (refine wpList_fopE rfl rfl rfl rfl rfl (by simp only [*]) ?_) | (refine wpList_narrow some64 Try.underlying22 rfl rfl rfl ?_; intro _ _ _))
              go_ret
              exact ⟨_, rfl, by rw [hL.out, ← hres.out, ← q8, ← q7]; assumption, _, rfl⟩
theorem impl_log_nan (x : Nat) (h : FloatKind.f32.format.order x x = none ∨ FloatKind.f32.format.order x 0 = some .lt) (w : World) :
    Calls Try.prog 41 #[.float .f32 x] w fun e w' => ∃ r n, e = .returned (.float .f32 r) ∧ nanB .f32 r = true ∧ w' = w.drewN n := by
  by_cases h1 : FloatKind.f32.format.order x x = none
  · have h2 : FloatKind.f32.format.order x 0 = none := by
      have e := order_self .f32 x
      rw [h1] at e
      rw [order_eq]
      split at e
      · rename_i hn; rw [hn]; rfl
      · cases e
    clear h
    go_enter Try.func41, Try.ntmps41
    go_wp2_with (go_at_call 51; refine (impl_noNumber _).mono ?_; rintro e w' ⟨r, n, rfl, hr, rfl⟩)
    go_ret
    exact ⟨_, _, rfl, hr, rfl⟩
  · have h2 : FloatKind.f32.format.order x 0 = some .lt := by rcases h with h | h; exact absurd h h1; exact h
    clear h h1
    go_enter Try.func41, Try.ntmps41
    go_wp2_with (go_at_call 51; refine (impl_noNumber _).mono ?_; rintro e w' ⟨r, n, rfl, hr, rfl⟩)
    go_ret
    exact ⟨_, _, rfl, hr, rfl⟩
theorem impl_log_zero (x : Nat) (h2 : FloatKind.f32.format.order x 0 = some .eq) (w : World) :
    Calls Try.prog 41 #[.float .f32 x] w fun e w' => ∃ n, e = .returned (.float .f32 4286578688) ∧ w' = w.drewN n := by
  go_enter Try.func41, Try.ntmps41
  go_wp2_with (go_at_call 52; refine (impl_infinity _).mono ?_; rintro e w' ⟨rfl, n, rfl⟩)
  go_ret
  exact ⟨_, rfl, rfl⟩
theorem impl_log_inf (x : Nat) (hfin : finB x = false) (p1 : FloatKind.f32.format.order x x = some .eq) (h2 : FloatKind.f32.format.order x 0 = some .gt) (w : World) :
    Calls Try.prog 41 #[.float .f32 x] w fun e w' => ∃ n, e = .returned (.float .f32 x) ∧ w' = w.drewN n := by
  go_enter Try.func41, Try.ntmps41
  go_wp2_with (go_at_call 60; refine (impl_IsFinite _ _).mono ?_; rintro e w' ⟨rfl, nn, rfl⟩)
  go_ret
  exact ⟨_, rfl, rfl⟩
/-- The logarithm. -/
def logF (x : Nat) : Nat := match FloatKind.f32.format.order x 0 with
  | none => cnan .f32
  | some .lt => cnan .f32
  | some .eq => 4286578688
  | some .gt => if finB x then nar (logW (cv x)) else x
/-- The four kinds of a 32-bit number. -/
theorem log_kinds {x : Nat} (hx : x < 4294967296) : (nanB .f32 x = true ∧ FloatKind.f32.format.order x 0 = none) ∨
    (nanB .f32 x = false ∧ (FloatKind.f32.format.order x 0 = some .lt ∨ FloatKind.f32.format.order x 0 = some .eq ∨
      (FloatKind.f32.format.order x 0 = some .gt ∧ ((finB x = false ∧ x = 2139095040) ∨ (finB x = true ∧ 874 * 4503599627370496 ≤ cv x ∧ cv x ≤ 1151 * 4503599627370496))))) := by
  have z : nanB .f32 0 = false := by decide +kernel
  cases hn : nanB .f32 x with
  | true => left; refine ⟨rfl, ?_⟩; rw [order_eq, hn]; rfl
  | false =>
    right
    refine ⟨rfl, ?_⟩
    have e := order_eq .f32 x 0
    rw [hn, z] at e
    rw [e]
    show (some (compare (keyOf single x) (keyOf single 0)) = _) ∨ (some (compare (keyOf single x) (keyOf single 0)) = _) ∨ (some (compare (keyOf single x) (keyOf single 0)) = _ ∧ _)
    have k0 : keyOf single 0 = 0 := by decide +kernel
    rw [k0]
    rcases Int.lt_trichotomy (keyOf single x) 0 with h | h | h
    · left; rw [Int.compare_eq_lt.2 h]
    · right; left; rw [Int.compare_eq_eq.2 h]
    · right; right; refine ⟨by rw [Int.compare_eq_gt.2 h], ?_⟩
      have hs : negOf single x = false := by
        cases hs : negOf single x with
        | false => rfl
        | true => unfold keyOf sgn at h; rw [hs, if_pos rfl] at h; omega
      have hr : rungAt single x ≠ 0 := by
        intro h0
        unfold keyOf sgn at h; rw [hs, h0] at h; simp at h
      rcases cases32 x with g | ⟨_, g⟩ | ⟨_, g⟩
      · rw [g] at hn; cases hn
      · right
        exact ⟨by unfold finB; exact decide_eq_true g, cv_pos g hs hr⟩
      · left
        refine ⟨by unfold finB; exact decide_eq_false (by omega), ?_⟩
        have := word_of single (x := x) (by rw [single_sign]; omega)
        rw [hs, g] at this
        rw [← this]; decide +kernel
theorem nar_logW {x : Nat} (a : 874 * 4503599627370496 ≤ cv x) (b : cv x ≤ 1151 * 4503599627370496) : ∃ c, floatToFloatBits .f64 (logW (cv x)) .f32 = some c := narrow_bd (by omega) (by omega) (logW_bd a b)
theorem order_self_num {k : FloatKind} {x : Nat} (h : nanB k x = false) : k.format.order x x = some .eq := by rw [order_self, h]; rfl
theorem order_self_nan {k : FloatKind} {x : Nat} (h : nanB k x = true) : k.format.order x x = none := by rw [order_self, h]; rfl
theorem order_cv0 (x : Nat) : FloatKind.f64.format.order (cv x) 0 = FloatKind.f32.format.order x 0 := by
  have := order_cv x 0
  rw [cv_zero] at this; exact this
theorem spec_l01Log (x : Nat) (hx : x < 4294967296) (w : World) : Calls Try.prog 62 #[.float .f32 x] w fun e w' => ∃ r n, e = .returned (.float .f32 r) ∧ Same .f32 r (logF x) ∧ w' = w.drewN n := by
  have main : ∀ (r1 : Nat) (h1 : Same .f64 r1 (cv x)) (w : World), Calls Try.prog 73 #[.float .f64 r1] w fun e w' => ∃ o n, e = .returned (.float .f64 o) ∧ (∀ r, Narrow o r → Same .f32 r (logF x)) ∧ w' = w.drewN n := by
    intro r1 h1 w
    have o0 := order_same h1 (Same.refl .f64 0)
    rw [order_cv0] at o0
    rcases log_kinds hx with ⟨hn, ho⟩ | ⟨hn, ho⟩
    · have hr : nanB .f64 r1 = true := by rw [h1.nan_iff, nanB_cv]; exact hn
      refine (spec_log_nan r1 (.inl (order_self_nan hr)) w).mono ?_
      rintro e w' ⟨r, n, rfl, hr, rfl⟩
      refine ⟨_, _, rfl, fun r2 h2 => .inr ⟨h2.1 hr, ?_⟩, rfl⟩
      unfold logF; rw [ho]; exact cnan_nan .f32
    · have hc : nanB .f64 (cv x) = false := by rw [nanB_cv]; exact hn
      obtain rfl := h1.num hc
      have hs := order_self_num hc
      rcases ho with ho | ho | ⟨ho, ho2⟩
      · refine (spec_log_nan (cv x) (.inr (o0.trans ho)) w).mono ?_
        rintro e w' ⟨r, n, rfl, hr, rfl⟩
        refine ⟨_, _, rfl, fun r2 h2 => .inr ⟨h2.1 hr, ?_⟩, rfl⟩
        unfold logF; rw [ho]; exact cnan_nan .f32
      · refine (spec_log_zero (cv x) hs (o0.trans ho) w).mono ?_
        rintro e w' ⟨rfl, rfl⟩
        refine ⟨_, 0, rfl, fun r2 h2 => .inl ?_, rfl⟩
        have hz : floatToFloatBits .f64 18442240474082181120 .f32 = some 4286578688 := by decide +kernel
        unfold logF; rw [ho]; exact h2.2 _ hz
      · rcases ho2 with ⟨hf, rfl⟩ | ⟨hf, a, b⟩
        · refine (spec_log_inf _ hs (o0.trans ho) (by decide +kernel) w).mono ?_
          rintro e w' ⟨rfl, rfl⟩
          refine ⟨_, 0, rfl, fun r2 h2 => .inl ?_, rfl⟩
          have hz : floatToFloatBits .f64 (cv 2139095040) .f32 = some 2139095040 := by decide +kernel
          unfold logF; rw [ho]; simp only [hf]; exact h2.2 _ hz
        · have h3 : FloatKind.f64.format.order (cv x) 9218868437227405311 = some .lt := by
            have := pos_lt (y := cv x) (c := 9218868437227405311) (by omega) (by omega)
            rw [decide_eq_true (by omega)] at this
            exact eq_of_beq this
          refine (spec_log_core a b hs (o0.trans ho) h3 w).mono ?_
          rintro e w' ⟨rfl, rfl⟩
          refine ⟨_, 0, rfl, fun r2 h2 => .inl ?_, rfl⟩
          obtain ⟨c, hc⟩ := nar_logW a b
          unfold logF nar; rw [ho]; simp only [hf, if_true, hc, Option.getD_some]; exact h2.2 _ hc
  go_enter Try.func62, Try.ntmps62
  go_wp2_with (first | (refine wpList_wide some32 Try.underlying34 rfl rfl rfl ?_; intro r1 n1 h1) | (refine wpList_narrow some64 Try.underlying22 rfl rfl rfl ?_; intro _ _ _) | (go_at_call 69; go_in) | (go_at_call 73; refine (main _ h1 _).mono ?_; rintro e w' ⟨o, n2, rfl, ho, rfl⟩))
  go_ret
  exact ⟨_, _, rfl, ho _ (by assumption), rfl⟩
theorem impl_log (x : Nat) (hx : x < 4294967296) (w : World) : Calls Try.prog 41 #[.float .f32 x] w fun e w' => ∃ r n, e = .returned (.float .f32 r) ∧ Same .f32 r (logF x) ∧ w' = w.drewN n := by
  rcases log_kinds hx with ⟨hn, ho⟩ | ⟨hn, ho⟩
  · refine (impl_log_nan x (.inl (order_self_nan hn)) w).mono ?_
    rintro e w' ⟨r, n, rfl, hr, rfl⟩
    refine ⟨_, _, rfl, .inr ⟨hr, ?_⟩, rfl⟩
    unfold logF; rw [ho]; exact cnan_nan .f32
  · have hs := order_self_num hn
    rcases ho with ho | ho | ⟨ho, ho2⟩
    · refine (impl_log_nan x (.inr ho) w).mono ?_
      rintro e w' ⟨r, n, rfl, hr, rfl⟩
      refine ⟨_, _, rfl, .inr ⟨hr, ?_⟩, rfl⟩
      unfold logF; rw [ho]; exact cnan_nan .f32
    · refine (impl_log_zero x ho w).mono ?_
      rintro e w' ⟨n, rfl, rfl⟩
      refine ⟨_, _, rfl, .inl ?_, rfl⟩
      unfold logF; rw [ho]
    · rcases ho2 with ⟨hf, hxi⟩ | ⟨hf, a, b⟩
      · refine (impl_log_inf x hf hs ho w).mono ?_
        rintro e w' ⟨n, rfl, rfl⟩
        refine ⟨_, _, rfl, .inl ?_, rfl⟩
        unfold logF; rw [ho]; simp only [hf]; rfl
      · obtain ⟨c1, c2, _, _⟩ := fin_cval hf
        refine (impl_log_core hf hs ho c1 c2 a b w).mono ?_
        rintro e w' ⟨r, n, rfl, hr, rfl⟩
        refine ⟨_, _, rfl, .inl ?_, rfl⟩
        obtain ⟨c, hc⟩ := nar_logW a b
        unfold logF nar; rw [ho]; simp only [hf, if_true, hc, Option.getD_some]; exact hr.2 _ hc
end Go.Proofs.Ytlampebmbpdloaa
