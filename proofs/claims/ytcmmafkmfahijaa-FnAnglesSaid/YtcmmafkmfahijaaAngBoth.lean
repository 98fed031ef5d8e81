/- The angle of a point, whole. Conditions: the bits are those of 32-bit numbers. -/
import Derived.Test.YtcmmafkmfahijaaAng
namespace Go.Proofs.Ytcmmafkmfahijaa
open Go.RowKit
open Ieee (single double)

theorem zero_test64 {y : Nat} (h : nanB .f64 y = false) : (FloatKind.f64.format.order y 0 == some .eq) = decide (rungAt double y = 0) := by
  rw [order_eq, h, n00]
  show (some (compare (keyOf double y) (keyOf double 0)) == _) = _
  have k0 : keyOf double 0 = 0 := by decide +kernel
  rw [k0]
  have hk : keyOf double y = 0 ↔ rungAt double y = 0 := by
    unfold keyOf sgn
    cases negOf double y
    · simp
    · simp
  rcases Int.lt_trichotomy (keyOf double y) 0 with g | g | g
  · rw [Int.compare_eq_lt.2 g, decide_eq_false (fun e => by have := hk.2 e; omega)]; rfl
  · rw [Int.compare_eq_eq.2 g, decide_eq_true (hk.1 g)]; rfl
  · rw [Int.compare_eq_gt.2 g, decide_eq_false (fun e => by have := hk.2 e; omega)]; rfl
theorem eq_not_lt {o : Option Ordering} (h : (o == some .eq) = true) : (o == some .lt) = false := by
  rw [eq_of_beq h]; rfl
theorem sub_self_val {x : Nat} (h : rungAt double x < double.infRung) : (∀ w, fval .sub .f64 x x w = 0) ∧ fcnt .sub .f64 x x = 0 := by
  have e := sub_self_finite .f64 h
  have : ∃ r, floatBits .sub .f64 x x = some r := by
    cases hb : floatBits .sub .f64 x x with
    | some r => exact ⟨r, rfl⟩
    | none => unfold fop at e; rw [hb] at e; exact absurd e (by decide)
  obtain ⟨r, hr⟩ := this
  have hr0 : r = 0 := by unfold fop at e; rw [hr] at e; exact e
  subst hr0
  exact ⟨fun w => by unfold fval; rw [hr]; rfl, by unfold fcnt; rw [hr]; rfl⟩

theorem spec_ang_core {Y X x y : Nat} (ex : x = X) (ey : y = Y) (hy : rungAt double Y < double.infRung) (hx : rungAt double X < double.infRung) (hy64 : Y < 18446744073709551616) (hx64 : X < 18446744073709551616) (ha0 : Up 1151 (rungAt double Y)) (hb0 : Up 1151 (rungAt double X))
    (hz : ((FloatKind.f64.format.order X 0 == some .eq) && (FloatKind.f64.format.order Y 0 == some .eq)) = false) (w : World) :
    Calls Try.prog 101 #[.float .f64 Y, .float .f64 X] w fun e w' => e = .returned (.float .f64 (angW Y X)) ∧ w = w' := by
  have ox : FloatKind.f64.format.order X 0 = FloatKind.f64.format.order x 0 := by rw [ex]
  have oy : FloatKind.f64.format.order Y 0 = FloatKind.f64.format.order y 0 := by rw [ey]
  obtain ⟨a, hA⟩ : ∃ a, rungAt double Y = a := ⟨_, rfl⟩
  obtain ⟨b, hB⟩ : ∃ b, rungAt double X = b := ⟨_, rfl⟩
  have ha : Up 1151 a := by rw [← hA]; exact ha0
  have hb : Up 1151 b := by rw [← hB]; exact hb0
  have hn0 := zero_test64 (nan_fin hy)
  have hn1 := zero_test64 (nan_fin hx)
  rw [hA, oy] at hn0
  rw [hB, ox] at hn1
  rw [ox, oy] at hz
  have h0 : a ≠ 0 ∨ b ≠ 0 := by
    by_cases q : a = 0
    · right
      intro q2
      rw [hn0, hn1, decide_eq_true q, decide_eq_true q2] at hz
      cases hz
    · exact .inl q
  have hz0 : (FloatKind.f64.format.order x 0 == some .eq) = true → b = 0 ∧ 0 < a := fun q => by
    rw [hn1, decide_eq_true_eq] at q
    omega
  have hzy : (FloatKind.f64.format.order x 0 == some .eq) = true → (FloatKind.f64.format.order y 0 == some .eq) = false := fun q => by
    rw [q, Bool.true_and] at hz; exact hz
  have gto : (FloatKind.f64.format.order a b == some .gt) = decide (b < a) := pos_gt (by unfold Up at ha; omega) (by unfold Up at hb; omega)
  obtain ⟨sx, sx2⟩ := sub_self_val hx
  have sy := sub_self_finite .f64 hy
  subst ex ey
  clear ox oy
  cases t1 : decide (b < a) <;> cases hbx : (FloatKind.f64.format.order x 0 == some .lt) <;> cases hby : (FloatKind.f64.format.order y 0 == some .lt) <;> cases zx : (FloatKind.f64.format.order x 0 == some .eq)
  · have e : angW y x = g2 a b false := by unfold angW; rw [hby, hbx, hA, hB]; rfl
    rw [e]
    exact spec_ang_0000 y x hy64 hx64 a b (gT a b) (gU a b) (gP a b) (gE a b) (g0 a b) (g1 a b) (g2 a b false) (gto.trans t1) (by unfold gT; rw [t1]; rfl) (bd_not_nan (by omega) (gT_bd ha hb h0)) (Lib.hid (gT_bd ha hb h0)) rfl (bd_not_nan (by omega) (gU_bd ha hb h0)) (Lib.hid (gU_bd ha hb h0)) rfl (bd_not_nan (by omega) (gP_bd ha hb h0)) rfl (bd_not_nan (by omega) (gE_bd ha hb h0)) rfl (bd_not_nan (by omega) (g0_bd ha hb h0)) (by unfold g1; rw [t1]; rfl) (by unfold g2; rfl) hA hB sy sx sx2 n00 h00 zx hbx hby w
  · exact absurd t1 (by have := hz0 zx; rw [decide_eq_true (by omega)]; decide)
  · have e : angW y x = Op.negFloat .f64 (g2 a b false) := by unfold angW; rw [hby, hbx, hA, hB]; rfl
    rw [e]
    exact spec_ang_0010 y x hy64 hx64 a b (gT a b) (gU a b) (gP a b) (gE a b) (g0 a b) (g1 a b) (g2 a b false) (gto.trans t1) (by unfold gT; rw [t1]; rfl) (bd_not_nan (by omega) (gT_bd ha hb h0)) (Lib.hid (gT_bd ha hb h0)) rfl (bd_not_nan (by omega) (gU_bd ha hb h0)) (Lib.hid (gU_bd ha hb h0)) rfl (bd_not_nan (by omega) (gP_bd ha hb h0)) rfl (bd_not_nan (by omega) (gE_bd ha hb h0)) rfl (bd_not_nan (by omega) (g0_bd ha hb h0)) (by unfold g1; rw [t1]; rfl) (by unfold g2; rfl) hA hB sy sx sx2 n00 h00 zx hbx hby w
  · exact absurd t1 (by have := hz0 zx; rw [decide_eq_true (by omega)]; decide)
  · have e : angW y x = g2 a b true := by unfold angW; rw [hby, hbx, hA, hB]; rfl
    rw [e]
    exact spec_ang_0100 y x hy64 hx64 a b (gT a b) (gU a b) (gP a b) (gE a b) (g0 a b) (g1 a b) (g2 a b true) (gto.trans t1) (by unfold gT; rw [t1]; rfl) (bd_not_nan (by omega) (gT_bd ha hb h0)) (Lib.hid (gT_bd ha hb h0)) rfl (bd_not_nan (by omega) (gU_bd ha hb h0)) (Lib.hid (gU_bd ha hb h0)) rfl (bd_not_nan (by omega) (gP_bd ha hb h0)) rfl (bd_not_nan (by omega) (gE_bd ha hb h0)) rfl (bd_not_nan (by omega) (g0_bd ha hb h0)) (by unfold g1; rw [t1]; rfl) (by unfold g2; rfl) (bd_not_nan (by omega) (g2_bd ha hb h0 true)) hA hB sy sx sx2 n00 h00 zx hbx hby w
  · exact absurd (eq_not_lt zx) (by rw [hbx]; decide)
  · have e : angW y x = Op.negFloat .f64 (g2 a b true) := by unfold angW; rw [hby, hbx, hA, hB]; rfl
    rw [e]
    exact spec_ang_0110 y x hy64 hx64 a b (gT a b) (gU a b) (gP a b) (gE a b) (g0 a b) (g1 a b) (g2 a b true) (gto.trans t1) (by unfold gT; rw [t1]; rfl) (bd_not_nan (by omega) (gT_bd ha hb h0)) (Lib.hid (gT_bd ha hb h0)) rfl (bd_not_nan (by omega) (gU_bd ha hb h0)) (Lib.hid (gU_bd ha hb h0)) rfl (bd_not_nan (by omega) (gP_bd ha hb h0)) rfl (bd_not_nan (by omega) (gE_bd ha hb h0)) rfl (bd_not_nan (by omega) (g0_bd ha hb h0)) (by unfold g1; rw [t1]; rfl) (by unfold g2; rfl) (bd_not_nan (by omega) (g2_bd ha hb h0 true)) hA hB sy sx sx2 n00 h00 zx hbx hby w
  · exact absurd (eq_not_lt zx) (by rw [hbx]; decide)
  · have e : angW y x = g2 a b false := by unfold angW; rw [hby, hbx, hA, hB]; rfl
    rw [e]
    exact spec_ang_1000 y x hy64 hx64 a b (gT a b) (gU a b) (gP a b) (gE a b) (g0 a b) (g1 a b) (g2 a b false) (gto.trans t1) (by unfold gT; rw [t1]; rfl) (bd_not_nan (by omega) (gT_bd ha hb h0)) (Lib.hid (gT_bd ha hb h0)) rfl (bd_not_nan (by omega) (gU_bd ha hb h0)) (Lib.hid (gU_bd ha hb h0)) rfl (bd_not_nan (by omega) (gP_bd ha hb h0)) rfl (bd_not_nan (by omega) (gE_bd ha hb h0)) rfl (bd_not_nan (by omega) (g0_bd ha hb h0)) (by unfold g1; rw [t1]; rfl) (bd_not_nan (by omega) (g1_bd ha hb h0)) (by unfold g2; rfl) hA hB sy sx sx2 n00 h00 zx hbx hby w
  · have e : angW y x = g2 a b false := by unfold angW; rw [hby, hbx, hA, hB]; rfl
    rw [e]
    exact spec_ang_1001 y x hy64 hx64 a b (gT a b) (gU a b) (gP a b) (gE a b) (g0 a b) (g1 a b) (g2 a b false) (gto.trans t1) (by unfold gT; rw [t1]; rfl) (bd_not_nan (by omega) (gT_bd ha hb h0)) (Lib.hid (gT_bd ha hb h0)) rfl (bd_not_nan (by omega) (gU_bd ha hb h0)) (Lib.hid (gU_bd ha hb h0)) rfl (bd_not_nan (by omega) (gP_bd ha hb h0)) rfl (bd_not_nan (by omega) (gE_bd ha hb h0)) rfl (bd_not_nan (by omega) (g0_bd ha hb h0)) (by unfold g1; rw [t1]; rfl) (bd_not_nan (by omega) (g1_bd ha hb h0)) (by unfold g2; rfl) hA hB sy sx sx2 n00 h00 zx (hzy zx) hbx hby w
  · have e : angW y x = Op.negFloat .f64 (g2 a b false) := by unfold angW; rw [hby, hbx, hA, hB]; rfl
    rw [e]
    exact spec_ang_1010 y x hy64 hx64 a b (gT a b) (gU a b) (gP a b) (gE a b) (g0 a b) (g1 a b) (g2 a b false) (gto.trans t1) (by unfold gT; rw [t1]; rfl) (bd_not_nan (by omega) (gT_bd ha hb h0)) (Lib.hid (gT_bd ha hb h0)) rfl (bd_not_nan (by omega) (gU_bd ha hb h0)) (Lib.hid (gU_bd ha hb h0)) rfl (bd_not_nan (by omega) (gP_bd ha hb h0)) rfl (bd_not_nan (by omega) (gE_bd ha hb h0)) rfl (bd_not_nan (by omega) (g0_bd ha hb h0)) (by unfold g1; rw [t1]; rfl) (bd_not_nan (by omega) (g1_bd ha hb h0)) (by unfold g2; rfl) hA hB sy sx sx2 n00 h00 zx hbx hby w
  · have e : angW y x = Op.negFloat .f64 (g2 a b false) := by unfold angW; rw [hby, hbx, hA, hB]; rfl
    rw [e]
    exact spec_ang_1011 y x hy64 hx64 a b (gT a b) (gU a b) (gP a b) (gE a b) (g0 a b) (g1 a b) (g2 a b false) (gto.trans t1) (by unfold gT; rw [t1]; rfl) (bd_not_nan (by omega) (gT_bd ha hb h0)) (Lib.hid (gT_bd ha hb h0)) rfl (bd_not_nan (by omega) (gU_bd ha hb h0)) (Lib.hid (gU_bd ha hb h0)) rfl (bd_not_nan (by omega) (gP_bd ha hb h0)) rfl (bd_not_nan (by omega) (gE_bd ha hb h0)) rfl (bd_not_nan (by omega) (g0_bd ha hb h0)) (by unfold g1; rw [t1]; rfl) (bd_not_nan (by omega) (g1_bd ha hb h0)) (by unfold g2; rfl) hA hB sy sx sx2 n00 h00 zx (hzy zx) hbx hby w
  · have e : angW y x = g2 a b true := by unfold angW; rw [hby, hbx, hA, hB]; rfl
    rw [e]
    exact spec_ang_1100 y x hy64 hx64 a b (gT a b) (gU a b) (gP a b) (gE a b) (g0 a b) (g1 a b) (g2 a b true) (gto.trans t1) (by unfold gT; rw [t1]; rfl) (bd_not_nan (by omega) (gT_bd ha hb h0)) (Lib.hid (gT_bd ha hb h0)) rfl (bd_not_nan (by omega) (gU_bd ha hb h0)) (Lib.hid (gU_bd ha hb h0)) rfl (bd_not_nan (by omega) (gP_bd ha hb h0)) rfl (bd_not_nan (by omega) (gE_bd ha hb h0)) rfl (bd_not_nan (by omega) (g0_bd ha hb h0)) (by unfold g1; rw [t1]; rfl) (bd_not_nan (by omega) (g1_bd ha hb h0)) (by unfold g2; rfl) (bd_not_nan (by omega) (g2_bd ha hb h0 true)) hA hB sy sx sx2 n00 h00 zx hbx hby w
  · exact absurd (eq_not_lt zx) (by rw [hbx]; decide)
  · have e : angW y x = Op.negFloat .f64 (g2 a b true) := by unfold angW; rw [hby, hbx, hA, hB]; rfl
    rw [e]
    exact spec_ang_1110 y x hy64 hx64 a b (gT a b) (gU a b) (gP a b) (gE a b) (g0 a b) (g1 a b) (g2 a b true) (gto.trans t1) (by unfold gT; rw [t1]; rfl) (bd_not_nan (by omega) (gT_bd ha hb h0)) (Lib.hid (gT_bd ha hb h0)) rfl (bd_not_nan (by omega) (gU_bd ha hb h0)) (Lib.hid (gU_bd ha hb h0)) rfl (bd_not_nan (by omega) (gP_bd ha hb h0)) rfl (bd_not_nan (by omega) (gE_bd ha hb h0)) rfl (bd_not_nan (by omega) (g0_bd ha hb h0)) (by unfold g1; rw [t1]; rfl) (bd_not_nan (by omega) (g1_bd ha hb h0)) (by unfold g2; rfl) (bd_not_nan (by omega) (g2_bd ha hb h0 true)) hA hB sy sx sx2 n00 h00 zx hbx hby w
  · exact absurd (eq_not_lt zx) (by rw [hbx]; decide)
theorem spec_ang_nan1 (y x : Nat) (h : ∀ r, Same .f64 r (fop .sub .f64 y y) → FloatKind.f64.format.order r 0 = none) (w : World) :
    Calls Try.prog 101 #[.float .f64 y, .float .f64 x] w fun e w' => ∃ r n, e = .returned (.float .f64 r) ∧ nanB .f64 r = true ∧ w' = w.drewN n := by
  go_enter Try.func101, Try.ntmps101
  go_wp2_with (first | (refine wpList_fop rfl rfl rfl rfl rfl ?_; intro r n hr; have h2 := h r hr; clear h hr) | (go_at_call 102; go_in))
  go_ret
  exact ⟨_, _, rfl, by decide +kernel, rfl⟩
theorem spec_ang_nan2 (y x : Nat) (sy : fop .sub .f64 y y = 0) (n0 : nanB .f64 0 = false) (h00 : FloatKind.f64.format.order 0 0 = some .eq) (h : ∀ w, FloatKind.f64.format.order (fval .sub .f64 x x w) 0 = none) (w : World) :
    Calls Try.prog 101 #[.float .f64 y, .float .f64 x] w fun e w' => ∃ r n, e = .returned (.float .f64 r) ∧ nanB .f64 r = true ∧ w' = w.drewN n := by
  go_enter Try.func101, Try.ntmps101
  go_wp2_with (first | (refine wpList_fopE rfl rfl rfl rfl rfl (by simp only [*]) ?_) | (go_at_call 102; go_in))
  go_ret
  exact ⟨_, _, rfl, by decide +kernel, rfl⟩
theorem spec_ang_zero (y x : Nat) (sy : fop .sub .f64 y y = 0) (sx : ∀ w, fval .sub .f64 x x w = 0) (sx2 : fcnt .sub .f64 x x = 0) (n0 : nanB .f64 0 = false) (h00 : FloatKind.f64.format.order 0 0 = some .eq) (zx : (FloatKind.f64.format.order x 0 == some .eq) = true) (zy : (FloatKind.f64.format.order y 0 == some .eq) = true) (w : World) :
    Calls Try.prog 101 #[.float .f64 y, .float .f64 x] w fun e w' => e = .returned (.float .f64 0) ∧ w = w' := by
  go_enter Try.func101, Try.ntmps101
  go_wp2_with (first | (refine wpList_fopE rfl rfl rfl rfl rfl (by simp only [*]) ?_))
  go_ret
  exact ⟨rfl, rfl⟩
theorem impl_ang_core {Y X x y : Nat} (ox : FloatKind.f64.format.order X 0 = FloatKind.f32.format.order x 0) (oy : FloatKind.f64.format.order Y 0 = FloatKind.f32.format.order y 0) (fy : finB y = true) (fx : finB x = true) (cy1 : ∀ w, cval .f32 y .f64 w = Y) (cy2 : ccnt .f32 y .f64 = 0) (cx1 : ∀ w, cval .f32 x .f64 w = X) (cx2 : ccnt .f32 x .f64 = 0)
    (hy : rungAt double Y < double.infRung) (hx : rungAt double X < double.infRung) (hy64 : Y < 18446744073709551616) (hx64 : X < 18446744073709551616) (ha0 : Up 1151 (rungAt double Y)) (hb0 : Up 1151 (rungAt double X))
    (hz : ((FloatKind.f64.format.order X 0 == some .eq) && (FloatKind.f64.format.order Y 0 == some .eq)) = false) (w : World) :
    Calls Try.prog 24 #[.float .f32 y, .float .f32 x] w fun e w' => ∃ r n, e = .returned (.float .f32 r) ∧ Narrow (angW Y X) r ∧ w' = w.drewN n := by
  obtain ⟨a, hA⟩ : ∃ a, rungAt double Y = a := ⟨_, rfl⟩
  obtain ⟨b, hB⟩ : ∃ b, rungAt double X = b := ⟨_, rfl⟩
  have ha : Up 1151 a := by rw [← hA]; exact ha0
  have hb : Up 1151 b := by rw [← hB]; exact hb0
  have hn0 := zero_test64 (nan_fin hy)
  have hn1 := zero_test64 (nan_fin hx)
  rw [hA, oy] at hn0
  rw [hB, ox] at hn1
  rw [ox, oy] at hz
  have h0 : a ≠ 0 ∨ b ≠ 0 := by
    by_cases q : a = 0
    · right
      intro q2
      rw [hn0, hn1, decide_eq_true q, decide_eq_true q2] at hz
      cases hz
    · exact .inl q
  have hz0 : (FloatKind.f32.format.order x 0 == some .eq) = true → b = 0 ∧ 0 < a := fun q => by
    rw [hn1, decide_eq_true_eq] at q
    omega
  have hzy : (FloatKind.f32.format.order x 0 == some .eq) = true → (FloatKind.f32.format.order y 0 == some .eq) = false := fun q => by
    rw [q, Bool.true_and] at hz; exact hz
  have gto : (FloatKind.f64.format.order a b == some .gt) = decide (b < a) := pos_gt (by unfold Up at ha; omega) (by unfold Up at hb; omega)
  cases t1 : decide (b < a) <;> cases hbx : (FloatKind.f32.format.order x 0 == some .lt) <;> cases hby : (FloatKind.f32.format.order y 0 == some .lt) <;> cases zx : (FloatKind.f32.format.order x 0 == some .eq)
  · have e : angW Y X = g2 a b false := by unfold angW; rw [oy, ox, hby, hbx, hA, hB]; rfl
    rw [e]
    exact impl_ang_0000 y x Y X hy64 hx64 fy fx cy1 cy2 cx1 cx2 a b (gT a b) (gU a b) (gP a b) (gE a b) (g0 a b) (g1 a b) (g2 a b false) (gto.trans t1) (by unfold gT; rw [t1]; rfl) (bd_not_nan (by omega) (gT_bd ha hb h0)) (Lib.hid (gT_bd ha hb h0)) rfl (bd_not_nan (by omega) (gU_bd ha hb h0)) (Lib.hid (gU_bd ha hb h0)) rfl (bd_not_nan (by omega) (gP_bd ha hb h0)) rfl (bd_not_nan (by omega) (gE_bd ha hb h0)) rfl (bd_not_nan (by omega) (g0_bd ha hb h0)) (by unfold g1; rw [t1]; rfl) (by unfold g2; rfl) hA hB zx hbx hby w
  · exact absurd t1 (by have := hz0 zx; rw [decide_eq_true (by omega)]; decide)
  · have e : angW Y X = Op.negFloat .f64 (g2 a b false) := by unfold angW; rw [oy, ox, hby, hbx, hA, hB]; rfl
    rw [e]
    exact impl_ang_0010 y x Y X hy64 hx64 fy fx cy1 cy2 cx1 cx2 a b (gT a b) (gU a b) (gP a b) (gE a b) (g0 a b) (g1 a b) (g2 a b false) (gto.trans t1) (by unfold gT; rw [t1]; rfl) (bd_not_nan (by omega) (gT_bd ha hb h0)) (Lib.hid (gT_bd ha hb h0)) rfl (bd_not_nan (by omega) (gU_bd ha hb h0)) (Lib.hid (gU_bd ha hb h0)) rfl (bd_not_nan (by omega) (gP_bd ha hb h0)) rfl (bd_not_nan (by omega) (gE_bd ha hb h0)) rfl (bd_not_nan (by omega) (g0_bd ha hb h0)) (by unfold g1; rw [t1]; rfl) (by unfold g2; rfl) hA hB zx hbx hby w
  · exact absurd t1 (by have := hz0 zx; rw [decide_eq_true (by omega)]; decide)
  · have e : angW Y X = g2 a b true := by unfold angW; rw [oy, ox, hby, hbx, hA, hB]; rfl
    rw [e]
    exact impl_ang_0100 y x Y X hy64 hx64 fy fx cy1 cy2 cx1 cx2 a b (gT a b) (gU a b) (gP a b) (gE a b) (g0 a b) (g1 a b) (g2 a b true) (gto.trans t1) (by unfold gT; rw [t1]; rfl) (bd_not_nan (by omega) (gT_bd ha hb h0)) (Lib.hid (gT_bd ha hb h0)) rfl (bd_not_nan (by omega) (gU_bd ha hb h0)) (Lib.hid (gU_bd ha hb h0)) rfl (bd_not_nan (by omega) (gP_bd ha hb h0)) rfl (bd_not_nan (by omega) (gE_bd ha hb h0)) rfl (bd_not_nan (by omega) (g0_bd ha hb h0)) (by unfold g1; rw [t1]; rfl) (by unfold g2; rfl) (bd_not_nan (by omega) (g2_bd ha hb h0 true)) hA hB zx hbx hby w
  · exact absurd (eq_not_lt zx) (by rw [hbx]; decide)
  · have e : angW Y X = Op.negFloat .f64 (g2 a b true) := by unfold angW; rw [oy, ox, hby, hbx, hA, hB]; rfl
    rw [e]
    exact impl_ang_0110 y x Y X hy64 hx64 fy fx cy1 cy2 cx1 cx2 a b (gT a b) (gU a b) (gP a b) (gE a b) (g0 a b) (g1 a b) (g2 a b true) (gto.trans t1) (by unfold gT; rw [t1]; rfl) (bd_not_nan (by omega) (gT_bd ha hb h0)) (Lib.hid (gT_bd ha hb h0)) rfl (bd_not_nan (by omega) (gU_bd ha hb h0)) (Lib.hid (gU_bd ha hb h0)) rfl (bd_not_nan (by omega) (gP_bd ha hb h0)) rfl (bd_not_nan (by omega) (gE_bd ha hb h0)) rfl (bd_not_nan (by omega) (g0_bd ha hb h0)) (by unfold g1; rw [t1]; rfl) (by unfold g2; rfl) (bd_not_nan (by omega) (g2_bd ha hb h0 true)) hA hB zx hbx hby w
  · exact absurd (eq_not_lt zx) (by rw [hbx]; decide)
  · have e : angW Y X = g2 a b false := by unfold angW; rw [oy, ox, hby, hbx, hA, hB]; rfl
    rw [e]
    exact impl_ang_1000 y x Y X hy64 hx64 fy fx cy1 cy2 cx1 cx2 a b (gT a b) (gU a b) (gP a b) (gE a b) (g0 a b) (g1 a b) (g2 a b false) (gto.trans t1) (by unfold gT; rw [t1]; rfl) (bd_not_nan (by omega) (gT_bd ha hb h0)) (quo_num (ha.mono (by omega)) (hb.mono (by omega)) h0) (Lib.hid (gT_bd ha hb h0)) rfl (bd_not_nan (by omega) (gU_bd ha hb h0)) (Lib.hid (gU_bd ha hb h0)) rfl (bd_not_nan (by omega) (gP_bd ha hb h0)) rfl (bd_not_nan (by omega) (gE_bd ha hb h0)) rfl (bd_not_nan (by omega) (g0_bd ha hb h0)) (by unfold g1; rw [t1]; rfl) (bd_not_nan (by omega) (g1_bd ha hb h0)) (by unfold g2; rfl) hA hB zx hbx hby w
  · have e : angW Y X = g2 a b false := by unfold angW; rw [oy, ox, hby, hbx, hA, hB]; rfl
    rw [e]
    exact impl_ang_1001 y x Y X hy64 hx64 fy fx cy1 cy2 cx1 cx2 a b (gT a b) (gU a b) (gP a b) (gE a b) (g0 a b) (g1 a b) (g2 a b false) (gto.trans t1) (by unfold gT; rw [t1]; rfl) (bd_not_nan (by omega) (gT_bd ha hb h0)) (quo_num (ha.mono (by omega)) (hb.mono (by omega)) h0) (Lib.hid (gT_bd ha hb h0)) rfl (bd_not_nan (by omega) (gU_bd ha hb h0)) (Lib.hid (gU_bd ha hb h0)) rfl (bd_not_nan (by omega) (gP_bd ha hb h0)) rfl (bd_not_nan (by omega) (gE_bd ha hb h0)) rfl (bd_not_nan (by omega) (g0_bd ha hb h0)) (by unfold g1; rw [t1]; rfl) (bd_not_nan (by omega) (g1_bd ha hb h0)) (by unfold g2; rfl) hA hB zx (hzy zx) hbx hby w
  · have e : angW Y X = Op.negFloat .f64 (g2 a b false) := by unfold angW; rw [oy, ox, hby, hbx, hA, hB]; rfl
    rw [e]
    exact impl_ang_1010 y x Y X hy64 hx64 fy fx cy1 cy2 cx1 cx2 a b (gT a b) (gU a b) (gP a b) (gE a b) (g0 a b) (g1 a b) (g2 a b false) (gto.trans t1) (by unfold gT; rw [t1]; rfl) (bd_not_nan (by omega) (gT_bd ha hb h0)) (quo_num (ha.mono (by omega)) (hb.mono (by omega)) h0) (Lib.hid (gT_bd ha hb h0)) rfl (bd_not_nan (by omega) (gU_bd ha hb h0)) (Lib.hid (gU_bd ha hb h0)) rfl (bd_not_nan (by omega) (gP_bd ha hb h0)) rfl (bd_not_nan (by omega) (gE_bd ha hb h0)) rfl (bd_not_nan (by omega) (g0_bd ha hb h0)) (by unfold g1; rw [t1]; rfl) (bd_not_nan (by omega) (g1_bd ha hb h0)) (by unfold g2; rfl) hA hB zx hbx hby w
  · have e : angW Y X = Op.negFloat .f64 (g2 a b false) := by unfold angW; rw [oy, ox, hby, hbx, hA, hB]; rfl
    rw [e]
    exact impl_ang_1011 y x Y X hy64 hx64 fy fx cy1 cy2 cx1 cx2 a b (gT a b) (gU a b) (gP a b) (gE a b) (g0 a b) (g1 a b) (g2 a b false) (gto.trans t1) (by unfold gT; rw [t1]; rfl) (bd_not_nan (by omega) (gT_bd ha hb h0)) (quo_num (ha.mono (by omega)) (hb.mono (by omega)) h0) (Lib.hid (gT_bd ha hb h0)) rfl (bd_not_nan (by omega) (gU_bd ha hb h0)) (Lib.hid (gU_bd ha hb h0)) rfl (bd_not_nan (by omega) (gP_bd ha hb h0)) rfl (bd_not_nan (by omega) (gE_bd ha hb h0)) rfl (bd_not_nan (by omega) (g0_bd ha hb h0)) (by unfold g1; rw [t1]; rfl) (bd_not_nan (by omega) (g1_bd ha hb h0)) (by unfold g2; rfl) hA hB zx (hzy zx) hbx hby w
  · have e : angW Y X = g2 a b true := by unfold angW; rw [oy, ox, hby, hbx, hA, hB]; rfl
    rw [e]
    exact impl_ang_1100 y x Y X hy64 hx64 fy fx cy1 cy2 cx1 cx2 a b (gT a b) (gU a b) (gP a b) (gE a b) (g0 a b) (g1 a b) (g2 a b true) (gto.trans t1) (by unfold gT; rw [t1]; rfl) (bd_not_nan (by omega) (gT_bd ha hb h0)) (quo_num (ha.mono (by omega)) (hb.mono (by omega)) h0) (Lib.hid (gT_bd ha hb h0)) rfl (bd_not_nan (by omega) (gU_bd ha hb h0)) (Lib.hid (gU_bd ha hb h0)) rfl (bd_not_nan (by omega) (gP_bd ha hb h0)) rfl (bd_not_nan (by omega) (gE_bd ha hb h0)) rfl (bd_not_nan (by omega) (g0_bd ha hb h0)) (by unfold g1; rw [t1]; rfl) (bd_not_nan (by omega) (g1_bd ha hb h0)) (by unfold g2; rfl) (bd_not_nan (by omega) (g2_bd ha hb h0 true)) hA hB zx hbx hby w
  · exact absurd (eq_not_lt zx) (by rw [hbx]; decide)
  · have e : angW Y X = Op.negFloat .f64 (g2 a b true) := by unfold angW; rw [oy, ox, hby, hbx, hA, hB]; rfl
    rw [e]
    exact impl_ang_1110 y x Y X hy64 hx64 fy fx cy1 cy2 cx1 cx2 a b (gT a b) (gU a b) (gP a b) (gE a b) (g0 a b) (g1 a b) (g2 a b true) (gto.trans t1) (by unfold gT; rw [t1]; rfl) (bd_not_nan (by omega) (gT_bd ha hb h0)) (quo_num (ha.mono (by omega)) (hb.mono (by omega)) h0) (Lib.hid (gT_bd ha hb h0)) rfl (bd_not_nan (by omega) (gU_bd ha hb h0)) (Lib.hid (gU_bd ha hb h0)) rfl (bd_not_nan (by omega) (gP_bd ha hb h0)) rfl (bd_not_nan (by omega) (gE_bd ha hb h0)) rfl (bd_not_nan (by omega) (g0_bd ha hb h0)) (by unfold g1; rw [t1]; rfl) (bd_not_nan (by omega) (g1_bd ha hb h0)) (by unfold g2; rfl) (bd_not_nan (by omega) (g2_bd ha hb h0 true)) hA hB zx hbx hby w
  · exact absurd (eq_not_lt zx) (by rw [hbx]; decide)
theorem impl_ang_nan1 (y x : Nat) (fx : finB x = false) (w : World) :
    Calls Try.prog 24 #[.float .f32 y, .float .f32 x] w fun e w' => ∃ r n, e = .returned (.float .f32 r) ∧ nanB .f32 r = true ∧ w' = w.drewN n := by
  go_enter Try.func24, Try.ntmps24
  go_wp2_with (first | (go_at_call 35; refine (impl_IsFinite _ _).mono ?_; rintro e w' ⟨rfl, nn, rfl⟩) | (go_at_call 63; refine (impl_noNumber _).mono ?_; rintro e w' ⟨r, n, rfl, hr, rfl⟩))
  go_ret
  exact ⟨_, _, rfl, hr, rfl⟩
theorem impl_ang_nan2 (y x : Nat) (fx : finB x = true) (fy : finB y = false) (w : World) :
    Calls Try.prog 24 #[.float .f32 y, .float .f32 x] w fun e w' => ∃ r n, e = .returned (.float .f32 r) ∧ nanB .f32 r = true ∧ w' = w.drewN n := by
  go_enter Try.func24, Try.ntmps24
  go_wp2_with (first | (go_at_call 35; refine (impl_IsFinite _ _).mono ?_; rintro e w' ⟨rfl, nn, rfl⟩) | (go_at_call 63; refine (impl_noNumber _).mono ?_; rintro e w' ⟨r, n, rfl, hr, rfl⟩))
  go_ret
  exact ⟨_, _, rfl, hr, rfl⟩
theorem impl_ang_zero (y x : Nat) (fx : finB x = true) (fy : finB y = true) (zx : (FloatKind.f32.format.order x 0 == some .eq) = true) (zy : (FloatKind.f32.format.order y 0 == some .eq) = true) (w : World) :
    Calls Try.prog 24 #[.float .f32 y, .float .f32 x] w fun e w' => ∃ n, e = .returned (.float .f32 0) ∧ w' = w.drewN n := by
  go_enter Try.func24, Try.ntmps24
  go_wp2_with (first | (go_at_call 35; refine (impl_IsFinite _ _).mono ?_; rintro e w' ⟨rfl, nn, rfl⟩))
  go_ret
  exact ⟨_, rfl, rfl⟩
theorem order_cv0 (x : Nat) : FloatKind.f64.format.order (cv x) 0 = FloatKind.f32.format.order x 0 := by
  have := order_cv x 0
  rw [cv_zero] at this; exact this
/-- The angle. -/
def angF (y x : Nat) : Nat := if finB y && finB x then (if (FloatKind.f32.format.order x 0 == some .eq) && (FloatKind.f32.format.order y 0 == some .eq) then 0 else nar (angW (cv y) (cv x))) else cnan .f32
theorem angF_nan {y x r : Nat} (h : (finB y && finB x) = false) (hr : nanB .f32 r = true) : Same .f32 r (angF y x) := .inr ⟨hr, by unfold angF; rw [h]; exact cnan_nan .f32⟩
theorem cv_up {x : Nat} (h : finB x = true) : Up 1151 (rungAt double (cv x)) := by
  have g : rungAt single x < single.infRung := by unfold finB at h; exact of_decide_eq_true h
  exact cv_bd g
theorem angW_narrow {y x : Nat} (fy : finB y = true) (fx : finB x = true) (hz : ((FloatKind.f32.format.order x 0 == some .eq) && (FloatKind.f32.format.order y 0 == some .eq)) = false) : ∃ c, floatToFloatBits .f64 (angW (cv y) (cv x)) .f32 = some c := by
  obtain ⟨_, _, iy, _⟩ := fin_cval fy
  obtain ⟨_, _, ix, _⟩ := fin_cval fx
  have hn0 := zero_test64 (nan_fin iy)
  have hn1 := zero_test64 (nan_fin ix)
  rw [order_cv0] at hn0 hn1
  have h0 : rungAt double (cv y) ≠ 0 ∨ rungAt double (cv x) ≠ 0 := by
    by_cases q : rungAt double (cv y) = 0
    · right
      intro q2
      rw [hn0, hn1, decide_eq_true q, decide_eq_true q2] at hz
      cases hz
    · exact .inl q
  have hb := g2_bd (cv_up fy) (cv_up fx) h0
  refine narrow_bd (k := 1086) (by omega) (by omega) ?_
  unfold angW
  split
  · unfold Bd; rw [rung_neg64]; exact hb _
  · exact hb _
theorem angF_num {y x r : Nat} (fy : finB y = true) (fx : finB x = true) (hz : ((FloatKind.f32.format.order x 0 == some .eq) && (FloatKind.f32.format.order y 0 == some .eq)) = false) (hr : Narrow (angW (cv y) (cv x)) r) : Same .f32 r (angF y x) := by
  obtain ⟨c, hc⟩ := angW_narrow fy fx hz
  left
  unfold angF nar; rw [fy, fx, hz, hc]; exact hr.2 c hc
theorem angF_zero {y x r : Nat} (fy : finB y = true) (fx : finB x = true) (zx : (FloatKind.f32.format.order x 0 == some .eq) = true) (zy : (FloatKind.f32.format.order y 0 == some .eq) = true) (hr : r = 0) : Same .f32 r (angF y x) := by
  left
  unfold angF; rw [fy, fx, zx, zy, hr]; rfl
theorem not_fin64 {x r1 : Nat} (hx : finB x = false) (h : Same .f64 r1 (cv x)) : ∀ r, Same .f64 r (fop .sub .f64 r1 r1) → FloatKind.f64.format.order r 0 = none := by
  intro r hr
  refine order_nan_left _ ?_
  have hnf : ¬ rungAt double (cv x) < double.infRung := by have := finB_cv x; rw [hx] at this; exact of_decide_eq_false this
  have h1 : ¬ rungAt double r1 < double.infRung := by
    rcases h with rfl | ⟨h1, _⟩
    · exact hnf
    · rw [nanB_eq, decide_eq_true_eq] at h1
      have : double.infRung < rungAt double r1 := h1
      omega
  have h2 := sub_self_other .f64 h1
  rcases hr with rfl | ⟨h3, _⟩
  · exact h2
  · exact h3
theorem spec_angle (y x : Nat) (w : World) : Calls Try.prog 62 #[.float .f32 y, .float .f32 x] w fun e w' => ∃ r n, e = .returned (.float .f32 r) ∧ Same .f32 r (angF y x) ∧ w' = w.drewN n := by
  have main : ∀ (r1 r2 : Nat) (h1 : Same .f64 r1 (cv y)) (h2 : Same .f64 r2 (cv x)) (w : World), Calls Try.prog 101 #[.float .f64 r1, .float .f64 r2] w fun e w' => ∃ o n, e = .returned (.float .f64 o) ∧ (∀ r, Narrow o r → Same .f32 r (angF y x)) ∧ w' = w.drewN n := by
    intro r1 r2 h1 h2 w
    cases fy : finB y with
    | false =>
      refine (spec_ang_nan1 r1 r2 (not_fin64 fy h1) w).mono ?_
      rintro e w' ⟨r, n, rfl, hr, rfl⟩
      exact ⟨_, _, rfl, fun r3 h3 => angF_nan (by rw [fy]; rfl) (h3.1 hr), rfl⟩
    | true =>
      obtain ⟨_, _, iy, ly⟩ := fin_cval fy
      obtain rfl := h1.num (nan_fin iy)
      cases fx : finB x with
      | false =>
        refine (spec_ang_nan2 (cv y) r2 (sub_self_finite .f64 iy) n00 h00 (fun w => not_fin64 fx h2 _ (fval_same .sub w (Same.refl _ _) (Same.refl _ _))) w).mono ?_
        rintro e w' ⟨r, n, rfl, hr, rfl⟩
        exact ⟨_, _, rfl, fun r3 h3 => angF_nan (by rw [fx, Bool.and_false]) (h3.1 hr), rfl⟩
      | true =>
        obtain ⟨_, _, ix, lx⟩ := fin_cval fx
        obtain rfl := h2.num (nan_fin ix)
        cases hz : ((FloatKind.f32.format.order x 0 == some .eq) && (FloatKind.f32.format.order y 0 == some .eq)) with
        | true =>
          rw [Bool.and_eq_true] at hz
          obtain ⟨sx, sx2⟩ := sub_self_val ix
          refine (spec_ang_zero (cv y) (cv x) (sub_self_finite .f64 iy) sx sx2 n00 h00 (by rw [order_cv0]; exact hz.1) (by rw [order_cv0]; exact hz.2) w).mono ?_
          rintro e w' ⟨rfl, rfl⟩
          refine ⟨_, 0, rfl, fun r3 h3 => angF_zero fy fx hz.1 hz.2 ?_, rfl⟩
          have hc : floatToFloatBits .f64 0 .f32 = some 0 := by decide +kernel
          exact h3.2 _ hc
        | false =>
          refine (spec_ang_core rfl rfl iy ix ly lx (cv_up fy) (cv_up fx) (by rw [order_cv0, order_cv0]; exact hz) w).mono ?_
          rintro e w' ⟨rfl, rfl⟩
          exact ⟨_, 0, rfl, fun r3 h3 => angF_num fy fx hz h3, rfl⟩
  go_enter Try.func62, Try.ntmps62
  go_wp2_with (first | (refine wpList_wide some32 Try.underlying28 rfl rfl rfl ?_; first | (intro r1 n1 h1; have tok1 := h1) | skip) | (refine wpList_narrow some64 Try.underlying23 rfl rfl rfl ?_; intro _ _ _) | (go_at_call 100; go_in) | (go_at_call 101; refine (main _ _ (by assumption) (by assumption) _).mono ?_; rintro e w' ⟨o, n2, rfl, ho, rfl⟩))
  go_ret
  exact ⟨_, _, rfl, ho _ (by assumption), rfl⟩
theorem impl_angle (y x : Nat) (w : World) : Calls Try.prog 24 #[.float .f32 y, .float .f32 x] w fun e w' => ∃ r n, e = .returned (.float .f32 r) ∧ Same .f32 r (angF y x) ∧ w' = w.drewN n := by
  cases fx : finB x with
  | false =>
    refine (impl_ang_nan1 y x fx w).mono ?_
    rintro e w' ⟨r, n, rfl, hr, rfl⟩
    exact ⟨_, _, rfl, angF_nan (by rw [fx, Bool.and_false]) hr, rfl⟩
  | true =>
    cases fy : finB y with
    | false =>
      refine (impl_ang_nan2 y x fx fy w).mono ?_
      rintro e w' ⟨r, n, rfl, hr, rfl⟩
      exact ⟨_, _, rfl, angF_nan (by rw [fy]; rfl) hr, rfl⟩
    | true =>
      obtain ⟨cy1, cy2, iy, ly⟩ := fin_cval fy
      obtain ⟨cx1, cx2, ix, lx⟩ := fin_cval fx
      cases hz : ((FloatKind.f32.format.order x 0 == some .eq) && (FloatKind.f32.format.order y 0 == some .eq)) with
      | true =>
        rw [Bool.and_eq_true] at hz
        refine (impl_ang_zero y x fx fy hz.1 hz.2 w).mono ?_
        rintro e w' ⟨n, rfl, rfl⟩
        exact ⟨_, _, rfl, angF_zero fy fx hz.1 hz.2 rfl, rfl⟩
      | false =>
        refine (impl_ang_core (order_cv0 x) (order_cv0 y) fy fx cy1 cy2 cx1 cx2 iy ix ly lx (cv_up fy) (cv_up fx) (by rw [order_cv0, order_cv0]; exact hz) w).mono ?_
        rintro e w' ⟨r, n, rfl, hr, rfl⟩
        exact ⟨_, _, rfl, angF_num fy fx hz hr, rfl⟩
end Go.Proofs.Ytcmmafkmfahijaa
