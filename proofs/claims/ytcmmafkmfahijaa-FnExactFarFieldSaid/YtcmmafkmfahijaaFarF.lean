/- Contracts of FarField. Conditions: none. -/
import Derived.Test.YtcmmafkmfahijaaAxis
import Derived.Test.YtcmmafkmfahijaaLocV
import Derived.Test.YtcmmafkmfahijaaNonneg
import Derived.Deep.RegionHeld3
import Derived.Deep.DeepCutAuto
namespace Go.Proofs.Ytcmmafkmfahijaa
open Go.RowKit

/-- Returns a vector and a flag. -/
def FlagVec (b : Bool) (X Y Z : Nat) (w : World) (e : Ending) (w' : World) : Prop :=
  ∃ x y z, e = .returned (.tuple #[vecV x y z, .bool b]) ∧ Same .f32 x (if b then X else 0) ∧ Same .f32 y (if b then Y else 0) ∧ Same .f32 z (if b then Z else 0) ∧ Below w.heap.size w w'
def vfin (x y z : Nat) : Bool := finB x && (finB y && finB z)
def inF (x y z u v t : Nat) : Nat := ad (ad (mu x u) (mu y v)) (mu z t)
/-- One number of the far field: of the two inner products, the moment's number a and the way's number b. -/
def farN (I Q a b : Nat) : Nat := mu (sb (mu b (qu (mu 1077936128 I) Q)) a) (qu 1065353216 (mu Q (rootF Q)))
def farC (x y z u v t a b : Nat) : Nat := farN (inF x y z u v t) (inF u v t u v t) a b
def farB (x y z u v t : Nat) : Bool := vfin x y z && (vfin u v t && vfin (farC x y z u v t x u) (farC x y z u v t y v) (farC x y z u v t z t))
theorem quiet_of {op : BinOp} {x y : Nat} (h : fop op .f32 x y ≤ 2139095040) : (∀ w, fval op .f32 x y w = fop op .f32 x y) ∧ fcnt op .f32 x y = 0 := by
  have hn := le_nan h
  have : ∃ r, floatBits op .f32 x y = some r := by
    cases e : floatBits op .f32 x y with
    | some r => exact ⟨r, rfl⟩
    | none => unfold fop at hn; rw [e] at hn; rw [show (none : Option Nat).getD (cnan .f32) = cnan .f32 from rfl, cnan_nan] at hn; cases hn
  obtain ⟨r, hr⟩ := this
  exact ⟨fun w => by unfold fval fop; rw [hr]; rfl, by unfold fcnt; rw [hr]; rfl⟩
theorem R3.keepH {g : Nat} {a b c : Value} {w1 w1' w2 : World} (hr : R3 g a b c w1) (hb : Below w1'.heap.size w1' w2) (e : w1'.heap = w1.heap) : R3 g a b c w2 := by
  have q : ∀ i v, w1.cell? ⟨g, i, none⟩ = some v → w1'.cell? ⟨g, i, none⟩ = some v := fun i v h => (World.cell?_of_block (w := w1) (a := ⟨g, i, none⟩) (by rw [e])).trans h
  have r : ∀ i, w1'.frozen? ⟨g, i, none⟩ = w1.frozen? ⟨g, i, none⟩ := fun i => World.frozen?_of_block (w := w1) (a := ⟨g, i, none⟩) (by rw [e])
  exact R3.keep ⟨q _ _ hr.1, q _ _ hr.2.1, q _ _ hr.2.2.1, (r 0).trans hr.2.2.2.1, (r 1).trans hr.2.2.2.2.1, (r 2).trans hr.2.2.2.2.2⟩ hb
def Mid6 (g p q r h u v n : Nat) (K : World → Prop) (w : World) : Prop := S6 g p q r h u v n K w
theorem S6.start (x0 y0 z0 x1 y1 z1 : Nat) (W : World) (t : TypeId) : S6 W.heap.size x0 y0 z0 (W.heap.size + 1) x1 y1 z1 (ResK W (W.heap.size + 1 + 1))
    (((W.alloc (.cells #[.float .f32 x0, .float .f32 y0, .float .f32 z0] t)).alloc (.cells #[.float .f32 x1, .float .f32 y1, .float .f32 z1] t)).alloc (.cells #[.float .f32 0, .float .f32 0, .float .f32 0] t)) := by
  have n : ∀ (w : World) (a b c : Value), R3 w.heap.size a b c (w.alloc (.cells #[a, b, c] t)) := fun w a b c => newCells (t := t) (Below.refl _ _)
  have h0 := R3.alloc (R3.alloc (n W (.float .f32 x0) (.float .f32 y0) (.float .f32 z0)) (.cells #[.float .f32 x1, .float .f32 y1, .float .f32 z1] t)) (.cells #[.float .f32 0, .float .f32 0, .float .f32 0] t)
  have h1 := R3.alloc (n (W.alloc (.cells #[.float .f32 x0, .float .f32 y0, .float .f32 z0] t)) (.float .f32 x1) (.float .f32 y1) (.float .f32 z1)) (.cells #[.float .f32 0, .float .f32 0, .float .f32 0] t)
  have h2 := n ((W.alloc (.cells #[.float .f32 x0, .float .f32 y0, .float .f32 z0] t)).alloc (.cells #[.float .f32 x1, .float .f32 y1, .float .f32 z1] t)) (.float .f32 0) (.float .f32 0) (.float .f32 0)
  simp only [World.size_alloc] at h1 h2
  exact ⟨h0.1, h0.2.1, h0.2.2.1, h1.1, h1.2.1, h1.2.2.1, h2, belowAlloc (belowAlloc (belowAlloc (Below.refl _ _) _) _) _⟩
theorem Loc.s6' {g0 x0 y0 z0 g1 x1 y1 z1 m : Nat} {K : World → Prop} (H : Loc m K) (h0 : g0 ≤ m) (h1 : g1 ≤ m) : Loc m (S6 g0 x0 y0 z0 g1 x1 y1 z1 K) :=
  Loc.both (Loc.cell g0 0 _) (Loc.both (Loc.cell g0 1 _) (Loc.both (Loc.cell g0 2 _) (Loc.both (Loc.cell g1 0 _) (Loc.both (Loc.cell g1 1 _) (Loc.both (Loc.cell g1 2 _) H h1) h1) h1) h0) h0) h0
theorem spec_vector (x y z X Y Z : Nat) (hx : Same .f32 x X) (hy : Same .f32 y Y) (hz : Same .f32 z Z) (w : World) : Calls Try.prog 91 #[vecV x y z] w (FlagVec (vfin X Y Z) X Y Z w) := by
  unfold vfin
  rw [← finB_same hx, ← finB_same hy, ← finB_same hz]
  cases hb : (finB x && (finB y && finB z))
  · go_enter Try.func91, Try.ntmps91
    go_wp2_with (first | (go_at_call 89; refine (spec_vfin _ _ _ _).mono ?_; rw [hb]; rintro e w' ⟨rfl, hbl⟩; obtain ⟨hc, hf⟩ := bcell hbl))
    refine bodyPost_ret (v := .tuple #[vecV 0 0 0, .bool false]) (by simp [results, Try.results91, go_sem, hc]) rfl ?_
    refine ⟨_, _, _, rfl, Same.refl _ _, Same.refl _ _, Same.refl _ _, ?_⟩
    (repeat' (first | with_reducible exact Below.refl _ _ | with_reducible assumption | with_reducible exact belowNext (by assumption) (by assumption) | with_reducible exact belowAlloc (by assumption) _ | refine below_drewN ?_ _ | refine Below.alloc ?_ (by first | exact Nat.le_refl _ | (simp <;> omega)) _ | refine Below.setCell ?_ (by first | exact Nat.le_refl _ | (simp <;> omega)) _ | refine Below.trans ?_ (Below.mono (by assumption) (by first | exact Nat.le_refl _ | (simp <;> omega)))))
  · go_enter Try.func91, Try.ntmps91
    go_wp2_with (first | (go_at_call 89; refine (spec_vfin _ _ _ _).mono ?_; rw [hb]; rintro e w' ⟨rfl, hbl⟩; obtain ⟨hc, hf⟩ := bcell hbl))
    refine bodyPost_ret (v := .tuple #[vecV x y z, .bool true]) (by simp [results, Try.results91, go_sem, hc]) rfl ?_
    refine ⟨_, _, _, rfl, hx, hy, hz, ?_⟩
    (repeat' (first | with_reducible exact Below.refl _ _ | with_reducible assumption | with_reducible exact belowNext (by assumption) (by assumption) | with_reducible exact belowAlloc (by assumption) _ | refine below_drewN ?_ _ | refine Below.alloc ?_ (by first | exact Nat.le_refl _ | (simp <;> omega)) _ | refine Below.setCell ?_ (by first | exact Nat.le_refl _ | (simp <;> omega)) _ | refine Below.trans ?_ (Below.mono (by assumption) (by first | exact Nat.le_refl _ | (simp <;> omega)))))
theorem impl_ifVector (x y z X Y Z : Nat) (hx : Same .f32 x X) (hy : Same .f32 y Y) (hz : Same .f32 z Z) (w : World) : Calls Try.prog 95 #[vecV x y z] w (FlagVec (vfin X Y Z) X Y Z w) := by
  unfold vfin
  rw [← finB_same hx, ← finB_same hy, ← finB_same hz]
  cases hb : (finB x && (finB y && finB z))
  · go_enter Try.func95, Try.ntmps95
    go_wp2_with (first | (go_at_call 94; refine (impl_vfin _ _ _ _).mono ?_; rw [hb]; rintro e w' ⟨rfl, hbl⟩; obtain ⟨hc, hf⟩ := bcell hbl))
    refine bodyPost_ret (v := .tuple #[vecV 0 0 0, .bool false]) (by simp [results, Try.results95, go_sem, hc]) rfl ?_
    refine ⟨_, _, _, rfl, Same.refl _ _, Same.refl _ _, Same.refl _ _, ?_⟩
    (repeat' (first | with_reducible exact Below.refl _ _ | with_reducible assumption | with_reducible exact belowNext (by assumption) (by assumption) | with_reducible exact belowAlloc (by assumption) _ | refine below_drewN ?_ _ | refine Below.alloc ?_ (by first | exact Nat.le_refl _ | (simp <;> omega)) _ | refine Below.setCell ?_ (by first | exact Nat.le_refl _ | (simp <;> omega)) _ | refine Below.trans ?_ (Below.mono (by assumption) (by first | exact Nat.le_refl _ | (simp <;> omega)))))
  · go_enter Try.func95, Try.ntmps95
    go_wp2_with (first | (go_at_call 94; refine (impl_vfin _ _ _ _).mono ?_; rw [hb]; rintro e w' ⟨rfl, hbl⟩; obtain ⟨hc, hf⟩ := bcell hbl))
    refine bodyPost_ret (v := .tuple #[vecV x y z, .bool true]) (by simp [results, Try.results95, go_sem, hc]) rfl ?_
    refine ⟨_, _, _, rfl, hx, hy, hz, ?_⟩
    (repeat' (first | with_reducible exact Below.refl _ _ | with_reducible assumption | with_reducible exact belowNext (by assumption) (by assumption) | with_reducible exact belowAlloc (by assumption) _ | refine below_drewN ?_ _ | refine Below.alloc ?_ (by first | exact Nat.le_refl _ | (simp <;> omega)) _ | refine Below.setCell ?_ (by first | exact Nat.le_refl _ | (simp <;> omega)) _ | refine Below.trans ?_ (Below.mono (by assumption) (by first | exact Nat.le_refl _ | (simp <;> omega)))))
set_option maxRecDepth 100000 in
set_option maxHeartbeats 3200000 in
theorem spec_far (x0 y0 z0 x1 y1 z1 : Nat) (W : World) : Calls Try.prog 49 #[vecV x0 y0 z0, vecV x1 y1 z1] W (FlagVec (farB x0 y0 z0 x1 y1 z1) (farC x0 y0 z0 x1 y1 z1 x0 x1) (farC x0 y0 z0 x1 y1 z1 y0 y1) (farC x0 y0 z0 x1 y1 z1 z0 z1) W) := by
  obtain ⟨KK, eK⟩ : ∃ K : World → Prop, K = ResK W (W.heap.size + 1 + 1) := ⟨_, rfl⟩
  have HK := Lib.hid eK
  have HL : Hid (Loc (W.heap.size + 1 + 1) (S6 W.heap.size x0 y0 z0 (W.heap.size + 1) x1 y1 z1 KK)) := Lib.hid (Loc.s6' (by rw [eK]; exact ResK.loc (by omega)) (by omega) (by omega))
  have HR : Hid (∀ w, KK w → R3 (W.heap.size + 1 + 1) (.float .f32 0) (.float .f32 0) (.float .f32 0) w) := Lib.hid (fun w k => by rw [HK.out] at k; exact k.1)
  have HB : Hid (∀ w, KK w → Below W.heap.size W w) := Lib.hid (fun w k => by rw [HK.out] at k; exact k.2)
  obtain ⟨w0, e0⟩ : ∃ w0, w0 = ((W.alloc (.cells #[.float .f32 x0, .float .f32 y0, .float .f32 z0] 47)).alloc (.cells #[.float .f32 x1, .float .f32 y1, .float .f32 z1] 47)).alloc (.cells #[.float .f32 0, .float .f32 0, .float .f32 0] 47) := ⟨_, rfl⟩
  have S0 : S6 W.heap.size x0 y0 z0 (W.heap.size + 1) x1 y1 z1 KK w0 := by
    rw [eK, e0]
    exact S6.start _ _ _ _ _ _ W _
  clear eK
  cases hm : (finB x0 && (finB y0 && finB z0))
  · have e : farB x0 y0 z0 x1 y1 z1 = false := by unfold farB vfin; rw [hm]; rfl
    rw [e]; clear e
    go_enter Try.func49, Try.ntmps49
    go_upto_region 1 with (fail)
    rw [← e0]
    clear e0
    go_wp2_with fail
    refine (spec_vfin _ _ _ _).mono ?_
    rw [hm]
    rintro e wb ⟨rfl, hb⟩
    have hSb : S6 W.heap.size x0 y0 z0 (W.heap.size + 1) x1 y1 z1 KK wb := Loc.keep HL hb S0
    clear hb S0
    have hr3 := HR.out _ (S6.whole hSb)
    go_wp2_with fail
    have hr3 := HR.out _ (S6.whole hSb)
    have hB := HB.out _ (S6.whole hSb)
    obtain ⟨t0, t1, t2⟩ := setThree (a := .float .f32 0) (b := .float .f32 0) (c := .float .f32 0) hr3.1 hr3.2.1 hr3.2.2.1
    refine bodyPost_ret (v := .tuple #[vecV 0 0 0, .bool false]) (by simp [results, Try.results49, go_sem, t0, t1, t2]) rfl ?_
    exact ⟨_, _, _, rfl, Same.refl _ _, Same.refl _ _, Same.refl _ _, belowSet (belowSet (belowSet hB (by omega)) (by omega)) (by omega)⟩
  cases hw : (finB x1 && (finB y1 && finB z1))
  · have e : farB x0 y0 z0 x1 y1 z1 = false := by unfold farB vfin; rw [hm, hw]; rfl
    rw [e]; clear e
    go_enter Try.func49, Try.ntmps49
    go_upto_region 1 with (fail)
    rw [← e0]
    clear e0
    go_wp2_with fail
    refine (spec_vfin _ _ _ _).mono ?_
    rw [hm]
    rintro e wb ⟨rfl, hb⟩
    have hSb : S6 W.heap.size x0 y0 z0 (W.heap.size + 1) x1 y1 z1 KK wb := Loc.keep HL hb S0
    clear hb S0
    have hl0 : W.heap.size < wb.heap.size := by have := Loc.size HL hSb; omega
    obtain ⟨a0, a1, a2, a3, a4, a5, a6⟩ : S6 W.heap.size x0 y0 z0 (W.heap.size + 1) x1 y1 z1 KK wb := hSb
    go_wp2_with fail
    refine (spec_vfin _ _ _ _).mono ?_
    rw [hw]
    rintro e wc ⟨rfl, hb⟩
    have hSb : S6 W.heap.size x0 y0 z0 (W.heap.size + 1) x1 y1 z1 KK wc := Loc.keep HL hb ⟨a0, a1, a2, a3, a4, a5, a6⟩
    clear hb a0 a1 a2 a3 a4 a5 a6 hl0
    have hr3 := HR.out _ (S6.whole hSb)
    go_wp2_with fail
    have hr3 := HR.out _ (S6.whole hSb)
    have hB := HB.out _ (S6.whole hSb)
    obtain ⟨t0, t1, t2⟩ := setThree (a := .float .f32 0) (b := .float .f32 0) (c := .float .f32 0) hr3.1 hr3.2.1 hr3.2.2.1
    refine bodyPost_ret (v := .tuple #[vecV 0 0 0, .bool false]) (by simp [results, Try.results49, go_sem, t0, t1, t2]) rfl ?_
    exact ⟨_, _, _, rfl, Same.refl _ _, Same.refl _ _, Same.refl _ _, belowSet (belowSet (belowSet hB (by omega)) (by omega)) (by omega)⟩
  have e : farB x0 y0 z0 x1 y1 z1 = vfin (farC x0 y0 z0 x1 y1 z1 x0 x1) (farC x0 y0 z0 x1 y1 z1 y0 y1) (farC x0 y0 z0 x1 y1 z1 z0 z1) := by unfold farB; rw [show vfin x0 y0 z0 = true from hm, show vfin x1 y1 z1 = true from hw]; rfl
  rw [e]; clear e
  have hQ : inF x1 y1 z1 x1 y1 z1 ≤ 2139095040 := by
    rw [Bool.and_eq_true, Bool.and_eq_true] at hw
    exact squares_le hw.1 hw.2.1 hw.2.2
  unfold farC
  have HI0 : ∀ w, Calls Try.prog 90 #[vecV x1 y1 z1, vecV x1 y1 z1] w (fun e w' => e = .returned (.float .f32 (inF x1 y1 z1 x1 y1 z1)) ∧ Below w.heap.size w w') := fun w => (spec_inner _ _ _ _ _ _ w).mono fun e w' ⟨x, he, hx, hb⟩ => ⟨by rw [he, same_le hx hQ]; rfl, hb⟩
  have HJ0 : ∀ w, Calls Try.prog 90 #[vecV x0 y0 z0, vecV x1 y1 z1] w (NumIs (inF x0 y0 z0 x1 y1 z1) w) := fun w => spec_inner _ _ _ _ _ _ w
  have HS0 : ∀ w, Calls Try.prog 85 #[.float .f32 (inF x1 y1 z1 x1 y1 z1)] w (fun e w' => e = .returned (.float .f32 (rootF (inF x1 y1 z1 x1 y1 z1))) ∧ ∃ n, w' = w.drewN n) := fun w => (spec_l01Sqrt _ w).mono fun e w' ⟨r, n, he, hr, hw⟩ => ⟨by rw [he, same_le hr (root_le hQ)], n, hw⟩
  have HI := Lib.hid HI0
  have HJ := Lib.hid HJ0
  have HS := Lib.hid HS0
  clear HI0 HJ0 HS0
  generalize inF x1 y1 z1 x1 y1 z1 = Q at *
  generalize inF x0 y0 z0 x1 y1 z1 = I at *
  have hF := cube_le hQ
  have hq := quiet_of hF
  have hp := quiet_of (op := .quo) (one_over hF)
  obtain ⟨hv1, hc1⟩ := hq
  obtain ⟨hv2, hc2⟩ := hp
  unfold farN

  have hv3 : ∀ w, fval .quo .f32 1065353216 (fop .mul .f32 Q (rootF Q)) w = qu 1065353216 (mu Q (rootF Q)) := hv2
  have hc3 : fcnt .quo .f32 1065353216 (fop .mul .f32 Q (rootF Q)) = 0 := hc2
  have hv4 : ∀ w, fval .mul .f32 Q (rootF Q) w = fop .mul .f32 Q (rootF Q) := hv1
  clear hv1 hv2 hc2 hF
  generalize qu 1065353216 (mu Q (rootF Q)) = GG at *
  generalize fop .mul .f32 Q (rootF Q) = FF at *
  · go_enter Try.func49, Try.ntmps49
    go_upto_region 1 with (fail)
    rw [← e0]
    clear e0
    go_wp2_with fail
    refine (spec_vfin _ _ _ _).mono ?_
    rw [hm]
    rintro e wb ⟨rfl, hb⟩
    have hSb : S6 W.heap.size x0 y0 z0 (W.heap.size + 1) x1 y1 z1 KK wb := Loc.keep HL hb S0
    clear hb S0
    have hl0 : W.heap.size < wb.heap.size := by have := Loc.size HL hSb; omega
    obtain ⟨a0, a1, a2, a3, a4, a5, a6⟩ : S6 W.heap.size x0 y0 z0 (W.heap.size + 1) x1 y1 z1 KK wb := hSb
    go_wp2_with fail
    refine (spec_vfin _ _ _ _).mono ?_
    rw [hw]
    rintro e wc ⟨rfl, hb⟩
    have hSb : S6 W.heap.size x0 y0 z0 (W.heap.size + 1) x1 y1 z1 KK wc := Loc.keep HL hb ⟨a0, a1, a2, a3, a4, a5, a6⟩
    clear hb a0 a1 a2 a3 a4 a5 a6 hl0
    have S0 := hSb
    obtain ⟨a0, a1, a2, a3, a4, a5, a6⟩ := hSb
    go_wp2_with fail
    refine (HI.out _).mono ?_
    rintro e wd ⟨rfl, hb⟩
    have hSd : S6 W.heap.size x0 y0 z0 (W.heap.size + 1) x1 y1 z1 KK wd := Loc.keep HL hb S0
    clear hb a0 a1 a2 a3 a4 a5 a6 S0
    go_upto_region 5 with (first | (go_at_call 85; refine (HS.out _).mono ?_; rintro e we ⟨rfl, nn, rfl⟩))
    have hSe : S6 W.heap.size x0 y0 z0 (W.heap.size + 1) x1 y1 z1 KK (wd.drewN nn) := Loc.drewN HL hSd nn
    clear hSd
    obtain ⟨we, ee⟩ : ∃ we, we = wd.drewN nn := ⟨_, rfl⟩
    rw [← ee] at hSe ⊢
    clear ee hv4 hc1
    obtain ⟨K2, eK⟩ : ∃ K : World → Prop, K = BelK W (W.heap.size + 1) := ⟨_, rfl⟩
    have HK2 := Lib.hid eK
    have HL2 : Hid (Loc (W.heap.size + 1) (S6 W.heap.size x0 y0 z0 (W.heap.size + 1) x1 y1 z1 K2)) := Lib.hid (Loc.s6' (by rw [eK]; exact BelK.loc (by omega)) (by omega) (by omega))
    have hr3 := HR.out _ (S6.whole hSe)
    have S0 : S6 W.heap.size x0 y0 z0 (W.heap.size + 1) x1 y1 z1 K2 we := ⟨hSe.1, hSe.2.1, hSe.2.2.1, hSe.2.2.2.1, hSe.2.2.2.2.1, hSe.2.2.2.2.2.1, by rw [eK]; exact ⟨by have := Loc.size HL hSe; omega, HB.out _ (S6.whole hSe)⟩⟩
    clear eK hSe
    have hl0 : W.heap.size < we.heap.size := by have := Loc.size HL2 S0; omega
    go_upto_region 6 with (first | (go_at_call 90; refine (HJ.out _).mono ?_; rintro e wb ⟨i, rfl, hi, hb⟩; have hSf : S6 W.heap.size x0 y0 z0 (W.heap.size + 1) x1 y1 z1 K2 wb := Loc.keep HL2 hb (by with_reducible first | exact hSc | exact hSf | exact Loc.set HL2 (Loc.set HL2 (Loc.set HL2 hSc (by omega)) (by omega)) (by omega) | (repeat (first | exact hSc | exact hSf | exact S0 | refine Loc.drew HL2 ?_ | refine Loc.drewN HL2 ?_ _))); have hr3 := R3.keepH hr3 hb rfl; have hs := Loc.size HL2 hSf; have HBc := Lib.hid hb; clear hb) | (refine wpList_fop rfl rfl rfl rfl rfl ?_; intro _ _ _))
    go_region_held3 (S6 W.heap.size x0 y0 z0 (W.heap.size + 1) x1 y1 z1 K2) (with_reducible (first | exact hSc | exact hSf | exact Loc.set HL2 (Loc.set HL2 (Loc.set HL2 hSc (by omega)) (by omega)) (by omega) | (repeat (first | exact hSc | exact hSf | exact S0 | refine Loc.drew HL2 ?_ | refine Loc.drewN HL2 ?_ _))))
      (first
        | (go_at_call 92; refine (spec_scale _ _ _ _ _).mono ?_; rintro e wb ⟨p, q, r, rfl, hp, hq, hr, hb⟩; have hSc : S6 W.heap.size x0 y0 z0 (W.heap.size + 1) x1 y1 z1 K2 wb := Loc.keep HL2 hb (by with_reducible first | exact hSc | exact hSf | exact Loc.set HL2 (Loc.set HL2 (Loc.set HL2 hSc (by omega)) (by omega)) (by omega) | (repeat (first | exact hSc | exact hSf | exact S0 | refine Loc.drew HL2 ?_ | refine Loc.drewN HL2 ?_ _))); have hr3 := R3.keepH hr3 hb rfl; have hs := Loc.size HL2 hSc; have HBc := Lib.hid hb; clear hb)
        | (go_at_call 93; refine (spec_less _ _ _ _ _ _ _).mono ?_; rintro e wb ⟨p, q, r, rfl, hp, hq, hr, hb⟩; have hSc : S6 W.heap.size x0 y0 z0 (W.heap.size + 1) x1 y1 z1 K2 wb := Loc.keep HL2 hb (by with_reducible first | exact hSc | exact hSf | exact Loc.set HL2 (Loc.set HL2 (Loc.set HL2 hSc (by omega)) (by omega)) (by omega) | (repeat (first | exact hSc | exact hSf | exact S0 | refine Loc.drew HL2 ?_ | refine Loc.drewN HL2 ?_ _))); have hr3 := R3.keepH hr3 hb rfl; have hs := Loc.size HL2 hSc; have HBc := Lib.hid hb; clear hb)
        | (go_at_call 91; refine (spec_vector _ _ _ (mu (sb (mu x1 (qu (mu 1077936128 I) Q)) x0) GG) (mu (sb (mu y1 (qu (mu 1077936128 I) Q)) y0) GG) (mu (sb (mu z1 (qu (mu 1077936128 I) Q)) z0) GG) (by (repeat' (first | exact Same.refl _ _ | assumption | (apply Same.step; assumption)))) (by (repeat' (first | exact Same.refl _ _ | assumption | (apply Same.step; assumption)))) (by (repeat' (first | exact Same.refl _ _ | assumption | (apply Same.step; assumption)))) _).mono ?_; rintro e wb ⟨p, q, r, rfl, hp, hq, hr, hb⟩; have hSc : S6 W.heap.size x0 y0 z0 (W.heap.size + 1) x1 y1 z1 K2 wb := Loc.keep HL2 hb (by with_reducible first | exact hSc | exact hSf | exact Loc.set HL2 (Loc.set HL2 (Loc.set HL2 hSc (by omega)) (by omega)) (by omega) | (repeat (first | exact hSc | exact hSf | exact S0 | refine Loc.drew HL2 ?_ | refine Loc.drewN HL2 ?_ _))); have hr3 := R3.keepH hr3 hb rfl; have hs := Loc.size HL2 hSc; have HBc := Lib.hid hb; clear hb))
    have hB := S6.whole hSc
    rw [HK2.out] at hB
    obtain ⟨t0, t1, t2⟩ := setThree (a := .float .f32 p) (b := .float .f32 q) (c := .float .f32 r) hr3.1 hr3.2.1 hr3.2.2.1
    go_wp2_with fail
    refine bodyPost_ret (v := .tuple #[vecV p q r, .bool (vfin (mu (sb (mu x1 (qu (mu 1077936128 I) Q)) x0) GG) (mu (sb (mu y1 (qu (mu 1077936128 I) Q)) y0) GG) (mu (sb (mu z1 (qu (mu 1077936128 I) Q)) z0) GG))]) (by simp [results, Try.results49, go_sem, t0, t1, t2]) rfl ?_
    exact ⟨_, _, _, rfl, hp, hq, hr, belowSet (belowSet (belowSet hB.2 (by omega)) (by omega)) (by omega)⟩
set_option maxRecDepth 100000 in
set_option maxHeartbeats 3200000 in
theorem impl_far (x0 y0 z0 x1 y1 z1 : Nat) (W : World) : Calls Try.prog 51 #[vecV x0 y0 z0, vecV x1 y1 z1] W (FlagVec (farB x0 y0 z0 x1 y1 z1) (farC x0 y0 z0 x1 y1 z1 x0 x1) (farC x0 y0 z0 x1 y1 z1 y0 y1) (farC x0 y0 z0 x1 y1 z1 z0 z1) W) := by
  obtain ⟨KK, eK⟩ : ∃ K : World → Prop, K = ResK W (W.heap.size + 1 + 1) := ⟨_, rfl⟩
  have HK := Lib.hid eK
  have HL : Hid (Loc (W.heap.size + 1 + 1) (S6 W.heap.size x0 y0 z0 (W.heap.size + 1) x1 y1 z1 KK)) := Lib.hid (Loc.s6' (by rw [eK]; exact ResK.loc (by omega)) (by omega) (by omega))
  have HR : Hid (∀ w, KK w → R3 (W.heap.size + 1 + 1) (.float .f32 0) (.float .f32 0) (.float .f32 0) w) := Lib.hid (fun w k => by rw [HK.out] at k; exact k.1)
  have HB : Hid (∀ w, KK w → Below W.heap.size W w) := Lib.hid (fun w k => by rw [HK.out] at k; exact k.2)
  obtain ⟨w0, e0⟩ : ∃ w0, w0 = ((W.alloc (.cells #[.float .f32 x0, .float .f32 y0, .float .f32 z0] 47)).alloc (.cells #[.float .f32 x1, .float .f32 y1, .float .f32 z1] 47)).alloc (.cells #[.float .f32 0, .float .f32 0, .float .f32 0] 47) := ⟨_, rfl⟩
  have S0 : S6 W.heap.size x0 y0 z0 (W.heap.size + 1) x1 y1 z1 KK w0 := by
    rw [eK, e0]
    exact S6.start _ _ _ _ _ _ W _
  clear eK
  cases hm : (finB x0 && (finB y0 && finB z0))
  · have e : farB x0 y0 z0 x1 y1 z1 = false := by unfold farB vfin; rw [hm]; rfl
    rw [e]; clear e
    go_enter Try.func51, Try.ntmps51
    go_upto_region 1 with (fail)
    rw [← e0]
    clear e0
    go_wp2_with fail
    refine (impl_vfin _ _ _ _).mono ?_
    rw [hm]
    rintro e wb ⟨rfl, hb⟩
    have hSb : S6 W.heap.size x0 y0 z0 (W.heap.size + 1) x1 y1 z1 KK wb := Loc.keep HL hb S0
    clear hb S0
    have hr3 := HR.out _ (S6.whole hSb)
    go_wp2_with fail
    have hr3 := HR.out _ (S6.whole hSb)
    have hB := HB.out _ (S6.whole hSb)
    obtain ⟨t0, t1, t2⟩ := setThree (a := .float .f32 0) (b := .float .f32 0) (c := .float .f32 0) hr3.1 hr3.2.1 hr3.2.2.1
    refine bodyPost_ret (v := .tuple #[vecV 0 0 0, .bool false]) (by simp [results, Try.results51, go_sem, t0, t1, t2]) rfl ?_
    exact ⟨_, _, _, rfl, Same.refl _ _, Same.refl _ _, Same.refl _ _, belowSet (belowSet (belowSet hB (by omega)) (by omega)) (by omega)⟩
  cases hw : (finB x1 && (finB y1 && finB z1))
  · have e : farB x0 y0 z0 x1 y1 z1 = false := by unfold farB vfin; rw [hm, hw]; rfl
    rw [e]; clear e
    go_enter Try.func51, Try.ntmps51
    go_upto_region 1 with (fail)
    rw [← e0]
    clear e0
    go_wp2_with fail
    refine (impl_vfin _ _ _ _).mono ?_
    rw [hm]
    rintro e wb ⟨rfl, hb⟩
    have hSb : S6 W.heap.size x0 y0 z0 (W.heap.size + 1) x1 y1 z1 KK wb := Loc.keep HL hb S0
    clear hb S0
    have hl0 : W.heap.size < wb.heap.size := by have := Loc.size HL hSb; omega
    obtain ⟨a0, a1, a2, a3, a4, a5, a6⟩ : S6 W.heap.size x0 y0 z0 (W.heap.size + 1) x1 y1 z1 KK wb := hSb
    go_wp2_with fail
    refine (impl_vfin _ _ _ _).mono ?_
    rw [hw]
    rintro e wc ⟨rfl, hb⟩
    have hSb : S6 W.heap.size x0 y0 z0 (W.heap.size + 1) x1 y1 z1 KK wc := Loc.keep HL hb ⟨a0, a1, a2, a3, a4, a5, a6⟩
    clear hb a0 a1 a2 a3 a4 a5 a6 hl0
    have hr3 := HR.out _ (S6.whole hSb)
    go_wp2_with fail
    have hr3 := HR.out _ (S6.whole hSb)
    have hB := HB.out _ (S6.whole hSb)
    obtain ⟨t0, t1, t2⟩ := setThree (a := .float .f32 0) (b := .float .f32 0) (c := .float .f32 0) hr3.1 hr3.2.1 hr3.2.2.1
    refine bodyPost_ret (v := .tuple #[vecV 0 0 0, .bool false]) (by simp [results, Try.results51, go_sem, t0, t1, t2]) rfl ?_
    exact ⟨_, _, _, rfl, Same.refl _ _, Same.refl _ _, Same.refl _ _, belowSet (belowSet (belowSet hB (by omega)) (by omega)) (by omega)⟩
  have e : farB x0 y0 z0 x1 y1 z1 = vfin (farC x0 y0 z0 x1 y1 z1 x0 x1) (farC x0 y0 z0 x1 y1 z1 y0 y1) (farC x0 y0 z0 x1 y1 z1 z0 z1) := by unfold farB; rw [show vfin x0 y0 z0 = true from hm, show vfin x1 y1 z1 = true from hw]; rfl
  rw [e]; clear e
  have hQ : inF x1 y1 z1 x1 y1 z1 ≤ 2139095040 := by
    rw [Bool.and_eq_true, Bool.and_eq_true] at hw
    exact squares_le hw.1 hw.2.1 hw.2.2
  unfold farC
  have HI0 : ∀ w, Calls Try.prog 82 #[vecV x1 y1 z1, vecV x1 y1 z1] w (fun e w' => e = .returned (.float .f32 (inF x1 y1 z1 x1 y1 z1)) ∧ Below w.heap.size w w') := fun w => (impl_inner _ _ _ _ _ _ w).mono fun e w' ⟨x, he, hx, hb⟩ => ⟨by rw [he, same_le hx hQ]; rfl, hb⟩
  have HJ0 : ∀ w, Calls Try.prog 82 #[vecV x0 y0 z0, vecV x1 y1 z1] w (NumIs (inF x0 y0 z0 x1 y1 z1) w) := fun w => impl_inner _ _ _ _ _ _ w
  have HS0 : ∀ w, Calls Try.prog 81 #[.float .f32 (inF x1 y1 z1 x1 y1 z1)] w (fun e w' => e = .returned (.float .f32 (rootF (inF x1 y1 z1 x1 y1 z1))) ∧ ∃ n, w' = w.drewN n) := fun w => (impl_RootNumber _ w).mono fun e w' ⟨r, n, he, hr, hw⟩ => ⟨by rw [he, same_le hr (root_le hQ)], n, hw⟩
  have HI := Lib.hid HI0
  have HJ := Lib.hid HJ0
  have HS := Lib.hid HS0
  clear HI0 HJ0 HS0
  generalize inF x1 y1 z1 x1 y1 z1 = Q at *
  generalize inF x0 y0 z0 x1 y1 z1 = I at *
  have hF := cube_le hQ
  have hq := quiet_of hF
  have hp := quiet_of (op := .quo) (one_over hF)
  obtain ⟨hv1, hc1⟩ := hq
  obtain ⟨hv2, hc2⟩ := hp
  unfold farN

  have hv3 : ∀ w, fval .quo .f32 1065353216 (fop .mul .f32 Q (rootF Q)) w = qu 1065353216 (mu Q (rootF Q)) := hv2
  have hc3 : fcnt .quo .f32 1065353216 (fop .mul .f32 Q (rootF Q)) = 0 := hc2
  have hv4 : ∀ w, fval .mul .f32 Q (rootF Q) w = fop .mul .f32 Q (rootF Q) := hv1
  clear hv1 hv2 hc2 hF
  generalize qu 1065353216 (mu Q (rootF Q)) = GG at *
  generalize fop .mul .f32 Q (rootF Q) = FF at *
  · go_enter Try.func51, Try.ntmps51
    go_upto_region 1 with (fail)
    rw [← e0]
    clear e0
    go_wp2_with fail
    refine (impl_vfin _ _ _ _).mono ?_
    rw [hm]
    rintro e wb ⟨rfl, hb⟩
    have hSb : S6 W.heap.size x0 y0 z0 (W.heap.size + 1) x1 y1 z1 KK wb := Loc.keep HL hb S0
    clear hb S0
    have hl0 : W.heap.size < wb.heap.size := by have := Loc.size HL hSb; omega
    obtain ⟨a0, a1, a2, a3, a4, a5, a6⟩ : S6 W.heap.size x0 y0 z0 (W.heap.size + 1) x1 y1 z1 KK wb := hSb
    go_wp2_with fail
    refine (impl_vfin _ _ _ _).mono ?_
    rw [hw]
    rintro e wc ⟨rfl, hb⟩
    have hSb : S6 W.heap.size x0 y0 z0 (W.heap.size + 1) x1 y1 z1 KK wc := Loc.keep HL hb ⟨a0, a1, a2, a3, a4, a5, a6⟩
    clear hb a0 a1 a2 a3 a4 a5 a6 hl0
    have S0 := hSb
    obtain ⟨a0, a1, a2, a3, a4, a5, a6⟩ := hSb
    go_wp2_with fail
    refine (HI.out _).mono ?_
    rintro e wd ⟨rfl, hb⟩
    have hSd : S6 W.heap.size x0 y0 z0 (W.heap.size + 1) x1 y1 z1 KK wd := Loc.keep HL hb S0
    clear hb a0 a1 a2 a3 a4 a5 a6 S0
    go_upto_region 5 with (first | (go_at_call 81; refine (HS.out _).mono ?_; rintro e we ⟨rfl, nn, rfl⟩))
    have hSe : S6 W.heap.size x0 y0 z0 (W.heap.size + 1) x1 y1 z1 KK (wd.drewN nn) := Loc.drewN HL hSd nn
    clear hSd
    obtain ⟨we, ee⟩ : ∃ we, we = wd.drewN nn := ⟨_, rfl⟩
    rw [← ee] at hSe ⊢
    clear ee hv4 hc1
    obtain ⟨K2, eK⟩ : ∃ K : World → Prop, K = BelK W (W.heap.size + 1) := ⟨_, rfl⟩
    have HK2 := Lib.hid eK
    have HL2 : Hid (Loc (W.heap.size + 1) (S6 W.heap.size x0 y0 z0 (W.heap.size + 1) x1 y1 z1 K2)) := Lib.hid (Loc.s6' (by rw [eK]; exact BelK.loc (by omega)) (by omega) (by omega))
    have hr3 := HR.out _ (S6.whole hSe)
    have S0 : S6 W.heap.size x0 y0 z0 (W.heap.size + 1) x1 y1 z1 K2 we := ⟨hSe.1, hSe.2.1, hSe.2.2.1, hSe.2.2.2.1, hSe.2.2.2.2.1, hSe.2.2.2.2.2.1, by rw [eK]; exact ⟨by have := Loc.size HL hSe; omega, HB.out _ (S6.whole hSe)⟩⟩
    clear eK hSe
    have hl0 : W.heap.size < we.heap.size := by have := Loc.size HL2 S0; omega
    go_upto_region 5 with (fail)
    refine wp_region_held_drew (S := S6 W.heap.size x0 y0 z0 (W.heap.size + 1) x1 y1 z1 K2) (by kernel_rfl) ?_ (fun hHeld => ?_)
    · (try dsimp only)
      with_reducible (first | exact hSc | exact hSf | exact Loc.set HL2 (Loc.set HL2 (Loc.set HL2 hSc (by omega)) (by omega)) (by omega) | (repeat (first | exact hSc | exact hSf | exact S0 | refine Loc.drew HL2 ?_ | refine Loc.drewN HL2 ?_ _)))
    refine wpAnyH_take (i := 0) (v := ?_) rfl (by kernel_rfl) (by kernel_rfl) (by kernel_rfl) (fun _ _ _ h => h) (Or.inl ⟨by rfl, ?_⟩) (by assumption) ?_
    rotate_left
    · (intro w hSw; (try dsimp only at hSw); go_simp; (try with_reducible rfl))
    (try simp only [Act.put])
    refine wpAnyH_take (i := 1) (v := ?_) rfl (by kernel_rfl) (by kernel_rfl) (by kernel_rfl) (fun _ _ _ h => h) (Or.inl ⟨by rfl, ?_⟩) (by assumption) ?_
    rotate_left
    · (intro w hSw; (try dsimp only at hSw); go_simp; (try with_reducible rfl))
    (try simp only [Act.put])
    refine wpAnyH_take (i := 2) (v := ?_) rfl (by kernel_rfl) (by kernel_rfl) (by kernel_rfl) (fun _ _ _ h => h) (Or.inl ⟨by rfl, ?_⟩) (by assumption) ?_
    rotate_left
    · (intro w hSw; (try dsimp only at hSw); go_simp; (try with_reducible rfl))
    (try simp only [Act.put])
    refine wpAnyH_take (i := 5) (v := ?_) rfl (by kernel_rfl) (by kernel_rfl) (by kernel_rfl) (fun _ _ _ h => h) (Or.inl ⟨by rfl, ?_⟩) (by assumption) ?_
    rotate_left
    · (intro w hSw; (try dsimp only at hSw); go_simp; (try with_reducible rfl))
    (try simp only [Act.put])
    refine wpAnyH_take (i := 8) (v := ?_) rfl (by kernel_rfl) (by kernel_rfl) (by kernel_rfl) (fun _ _ _ h => h) (Or.inl ⟨by rfl, ?_⟩) (by assumption) ?_
    rotate_left
    · (intro w hSw; (try dsimp only at hSw); go_simp; (try with_reducible rfl))
    (try simp only [Act.put])
    refine wpAnyH_take (i := 10) (v := ?_) rfl (by kernel_rfl) (by kernel_rfl) (by kernel_rfl) (fun _ _ _ h => h) (Or.inl ⟨by rfl, ?_⟩) (by assumption) ?_
    rotate_left
    · (intro w hSw; (try dsimp only at hSw); go_simp; (try with_reducible rfl))
    (try simp only [Act.put])
    refine wpAnyH_take (i := 11) (v := ?_) rfl (by kernel_rfl) (by kernel_rfl) (by kernel_rfl) (fun _ _ _ h => h) (Or.inl ⟨by rfl, ?_⟩) (by assumption) ?_
    rotate_left
    · (intro w hSw; (try dsimp only at hSw); go_simp; (try with_reducible rfl))
    (try simp only [Act.put])
    refine wpAnyH_ready (rs := [3]) (by kernel_rfl) (by simp) ?_
    refine AllReadyH.cons rfl (fun K hK => ?_) AllReadyH.nil
    go_simp
    (go_at_call 82; refine (HJ.out _).mono ?_; rintro e wb ⟨i, rfl, hi, hb⟩; have hSf : S6 W.heap.size x0 y0 z0 (W.heap.size + 1) x1 y1 z1 K2 wb := Loc.keep HL2 hb (by with_reducible first | exact hSc | exact hSf | exact Loc.set HL2 (Loc.set HL2 (Loc.set HL2 hSc (by omega)) (by omega)) (by omega) | (repeat (first | exact hSc | exact hSf | exact S0 | refine Loc.drew HL2 ?_ | refine Loc.drewN HL2 ?_ _))); have hr3 := R3.keepH hr3 hb rfl; have hs := Loc.size HL2 hSf; have HBc := Lib.hid hb; clear hb)
    refine hK.out _ _ ?_ (fun hHeld => ?_)
    · (try dsimp only)
      with_reducible (first | exact hSc | exact hSf | exact Loc.set HL2 (Loc.set HL2 (Loc.set HL2 hSc (by omega)) (by omega)) (by omega) | (repeat (first | exact hSc | exact hSf | exact S0 | refine Loc.drew HL2 ?_ | refine Loc.drewN HL2 ?_ _)))
    clear hK K
    (try simp only [Act.put, List.setIfInBounds_toArray, List.set_cons_zero, List.set_cons_succ])
    refine wpAnyH_ready (rs := [4]) (by kernel_rfl) (by simp) ?_
    refine AllReadyH.cons rfl (fun K hK => ?_) AllReadyH.nil
    go_simp
    skip
    refine hK.out _ _ ?_ (fun hHeld => ?_)
    · (try dsimp only)
      with_reducible (first | exact hSc | exact hSf | exact Loc.set HL2 (Loc.set HL2 (Loc.set HL2 hSc (by omega)) (by omega)) (by omega) | (repeat (first | exact hSc | exact hSf | exact S0 | refine Loc.drew HL2 ?_ | refine Loc.drewN HL2 ?_ _)))
    clear hK K
    (try simp only [Act.put, List.setIfInBounds_toArray, List.set_cons_zero, List.set_cons_succ])
    refine wpAnyH_ready (rs := [6]) (by kernel_rfl) (by simp) ?_
    refine AllReadyH.cons rfl (fun K hK => ?_) AllReadyH.nil
    go_simp
    skip
    refine hK.out _ _ ?_ (fun hHeld => ?_)
    · (try dsimp only)
      with_reducible (first | exact hSc | exact hSf | exact Loc.set HL2 (Loc.set HL2 (Loc.set HL2 hSc (by omega)) (by omega)) (by omega) | (repeat (first | exact hSc | exact hSf | exact S0 | refine Loc.drew HL2 ?_ | refine Loc.drewN HL2 ?_ _)))
    clear hK K
    (try simp only [Act.put, List.setIfInBounds_toArray, List.set_cons_zero, List.set_cons_succ])
    refine wpAnyH_ready (rs := [7]) (by kernel_rfl) (by simp) ?_
    refine AllReadyH.cons rfl (fun K hK => ?_) AllReadyH.nil
    go_simp
    (go_at_call 96; refine (impl_scale _ _ _ _ _).mono ?_; rintro e wb ⟨p, q, r, rfl, hp, hq, hr, hb⟩; have hSc : S6 W.heap.size x0 y0 z0 (W.heap.size + 1) x1 y1 z1 K2 wb := Loc.keep HL2 hb (by with_reducible first | exact hSc | exact hSf | exact Loc.set HL2 (Loc.set HL2 (Loc.set HL2 hSc (by omega)) (by omega)) (by omega) | (repeat (first | exact hSc | exact hSf | exact S0 | refine Loc.drew HL2 ?_ | refine Loc.drewN HL2 ?_ _))); have hr3 := R3.keepH hr3 hb rfl; have hs := Loc.size HL2 hSc; have HBc := Lib.hid hb; clear hb)
    refine hK.out _ _ ?_ (fun hHeld => ?_)
    · (try dsimp only)
      with_reducible (first | exact hSc | exact hSf | exact Loc.set HL2 (Loc.set HL2 (Loc.set HL2 hSc (by omega)) (by omega)) (by omega) | (repeat (first | exact hSc | exact hSf | exact S0 | refine Loc.drew HL2 ?_ | refine Loc.drewN HL2 ?_ _)))
    clear hK K
    (try simp only [Act.put, List.setIfInBounds_toArray, List.set_cons_zero, List.set_cons_succ])
    refine wpAnyH_ready (rs := [9]) (by kernel_rfl) (by simp) ?_
    refine AllReadyH.cons rfl (fun K hK => ?_) AllReadyH.nil
    go_simp
    (go_at_call 97; refine (impl_less _ _ _ _ _ _ _).mono ?_; rintro e wb ⟨p, q, r, rfl, hp, hq, hr, hb⟩; have hSc : S6 W.heap.size x0 y0 z0 (W.heap.size + 1) x1 y1 z1 K2 wb := Loc.keep HL2 hb (by with_reducible first | exact hSc | exact hSf | exact Loc.set HL2 (Loc.set HL2 (Loc.set HL2 hSc (by omega)) (by omega)) (by omega) | (repeat (first | exact hSc | exact hSf | exact S0 | refine Loc.drew HL2 ?_ | refine Loc.drewN HL2 ?_ _))); have hr3 := R3.keepH hr3 hb rfl; have hs := Loc.size HL2 hSc; have HBc := Lib.hid hb; clear hb)
    refine hK.out _ _ ?_ (fun hHeld => ?_)
    · (try dsimp only)
      with_reducible (first | exact hSc | exact hSf | exact Loc.set HL2 (Loc.set HL2 (Loc.set HL2 hSc (by omega)) (by omega)) (by omega) | (repeat (first | exact hSc | exact hSf | exact S0 | refine Loc.drew HL2 ?_ | refine Loc.drewN HL2 ?_ _)))
    clear hK K
    (try simp only [Act.put, List.setIfInBounds_toArray, List.set_cons_zero, List.set_cons_succ])
    refine wpAnyH_ready (rs := [12]) (by kernel_rfl) (by simp) ?_
    refine AllReadyH.cons rfl (fun K hK => ?_) AllReadyH.nil
    go_simp
    (go_at_call 96; refine (impl_scale _ _ _ _ _).mono ?_; rintro e wb ⟨p, q, r, rfl, hp, hq, hr, hb⟩; have hSc : S6 W.heap.size x0 y0 z0 (W.heap.size + 1) x1 y1 z1 K2 wb := Loc.keep HL2 hb (by with_reducible first | exact hSc | exact hSf | exact Loc.set HL2 (Loc.set HL2 (Loc.set HL2 hSc (by omega)) (by omega)) (by omega) | (repeat (first | exact hSc | exact hSf | exact S0 | refine Loc.drew HL2 ?_ | refine Loc.drewN HL2 ?_ _))); have hr3 := R3.keepH hr3 hb rfl; have hs := Loc.size HL2 hSc; have HBc := Lib.hid hb; clear hb)
    refine hK.out _ _ ?_ (fun hHeld => ?_)
    · (try dsimp only)
      with_reducible (first | exact hSc | exact hSf | exact Loc.set HL2 (Loc.set HL2 (Loc.set HL2 hSc (by omega)) (by omega)) (by omega) | (repeat (first | exact hSc | exact hSf | exact S0 | refine Loc.drew HL2 ?_ | refine Loc.drewN HL2 ?_ _)))
    clear hK K
    (try simp only [Act.put, List.setIfInBounds_toArray, List.set_cons_zero, List.set_cons_succ])
    refine wpAnyH_ready (rs := [13]) (by kernel_rfl) (by simp) ?_
    refine AllReadyH.cons rfl (fun K hK => ?_) AllReadyH.nil
    go_simp
    (go_at_call 95; refine (impl_ifVector _ _ _ (mu (sb (mu x1 (qu (mu 1077936128 I) Q)) x0) GG) (mu (sb (mu y1 (qu (mu 1077936128 I) Q)) y0) GG) (mu (sb (mu z1 (qu (mu 1077936128 I) Q)) z0) GG) (by (repeat' (first | with_reducible exact Same.refl _ _ | with_reducible assumption | with_reducible refine fval_same _ _ ?_ ?_ | (apply Same.step; assumption)))) (by (repeat' (first | with_reducible exact Same.refl _ _ | with_reducible assumption | with_reducible refine fval_same _ _ ?_ ?_ | (apply Same.step; assumption)))) (by (repeat' (first | with_reducible exact Same.refl _ _ | with_reducible assumption | with_reducible refine fval_same _ _ ?_ ?_ | (apply Same.step; assumption)))) _).mono ?_; rintro e wb ⟨p, q, r, rfl, hp, hq, hr, hb⟩; have hSc : S6 W.heap.size x0 y0 z0 (W.heap.size + 1) x1 y1 z1 K2 wb := Loc.keep HL2 hb (by with_reducible first | exact hSc | exact hSf | exact Loc.set HL2 (Loc.set HL2 (Loc.set HL2 hSc (by omega)) (by omega)) (by omega) | (repeat (first | exact hSc | exact hSf | exact S0 | refine Loc.drew HL2 ?_ | refine Loc.drewN HL2 ?_ _))); have hr3 := R3.keepH hr3 hb rfl; have hs := Loc.size HL2 hSc; have HBc := Lib.hid hb; clear hb)
    refine hK.out _ _ ?_ (fun hHeld => ?_)
    · (try dsimp only)
      with_reducible (first | exact hSc | exact hSf | exact Loc.set HL2 (Loc.set HL2 (Loc.set HL2 hSc (by omega)) (by omega)) (by omega) | (repeat (first | exact hSc | exact hSf | exact S0 | refine Loc.drew HL2 ?_ | refine Loc.drewN HL2 ?_ _)))
    clear hK K
    (try simp only [Act.put, List.setIfInBounds_toArray, List.set_cons_zero, List.set_cons_succ])
    refine wpAnyH_take (i := 14) (v := ?_) rfl (by kernel_rfl) (by kernel_rfl) (by kernel_rfl) (fun _ _ _ h => h) (Or.inl ⟨by rfl, ?_⟩) (by assumption) ?_
    rotate_left
    · (intro w hSw; (try dsimp only at hSw); go_simp; (try with_reducible rfl))
    (try simp only [Act.put])
    refine wpAnyH_take (i := 15) (v := ?_) rfl (by kernel_rfl) (by kernel_rfl) (by kernel_rfl) (fun _ _ _ h => h) (Or.inl ⟨by rfl, ?_⟩) (by assumption) ?_
    rotate_left
    · (intro w hSw; (try dsimp only at hSw); go_simp; (try with_reducible rfl))
    (try simp only [Act.put])
    refine wpAnyH_ready (rs := [16]) (by kernel_rfl) (by simp) ?_
    refine AllReadyH.cons rfl (fun K hK => ?_) AllReadyH.nil
    go_simp
    skip
    refine hK.out _ _ ?_ (fun hHeld => ?_)
    · (try dsimp only)
      with_reducible (first | exact hSc | exact hSf | exact Loc.set HL2 (Loc.set HL2 (Loc.set HL2 hSc (by omega)) (by omega)) (by omega) | (repeat (first | exact hSc | exact hSf | exact S0 | refine Loc.drew HL2 ?_ | refine Loc.drewN HL2 ?_ _)))
    clear hK K
    (try simp only [Act.put, List.setIfInBounds_toArray, List.set_cons_zero, List.set_cons_succ])
    refine wpAnyH_ready (rs := [17]) (by kernel_rfl) (by simp) ?_
    refine AllReadyH.cons rfl (fun K hK => ?_) AllReadyH.nil
    go_simp
    skip
    refine hK.out _ _ ?_ (fun hHeld => ?_)
    · (try dsimp only)
      with_reducible (first | exact hSc | exact hSf | exact Loc.set HL2 (Loc.set HL2 (Loc.set HL2 hSc (by omega)) (by omega)) (by omega) | (repeat (first | exact hSc | exact hSf | exact S0 | refine Loc.drew HL2 ?_ | refine Loc.drewN HL2 ?_ _)))
    clear hK K
    (try simp only [Act.put, List.setIfInBounds_toArray, List.set_cons_zero, List.set_cons_succ])
    refine wpAnyH_done (by kernel_rfl) ?_ _
    have hB := S6.whole hSc
    rw [HK2.out] at hB
    obtain ⟨t0, t1, t2⟩ := setThree (a := .float .f32 p) (b := .float .f32 q) (c := .float .f32 r) hr3.1 hr3.2.1 hr3.2.2.1
    go_wp2_with fail
    refine bodyPost_ret (v := .tuple #[vecV p q r, .bool (vfin (mu (sb (mu x1 (qu (mu 1077936128 I) Q)) x0) GG) (mu (sb (mu y1 (qu (mu 1077936128 I) Q)) y0) GG) (mu (sb (mu z1 (qu (mu 1077936128 I) Q)) z0) GG))]) (by simp [results, Try.results51, go_sem, t0, t1, t2]) rfl ?_
    exact ⟨_, _, _, rfl, hp, hq, hr, belowSet (belowSet (belowSet hB.2 (by omega)) (by omega)) (by omega)⟩
end Go.Proofs.Ytcmmafkmfahijaa
