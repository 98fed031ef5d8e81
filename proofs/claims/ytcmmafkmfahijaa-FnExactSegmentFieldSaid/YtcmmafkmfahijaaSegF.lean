/- Contracts of SegmentField. Conditions: none. -/
import Derived.Test.YtcmmafkmfahijaaLocV
import Derived.Test.YtcmmafkmfahijaaAxis
import Derived.Deep.RegionHeld3
import Derived.Deep.DeepCutAuto
namespace Go.Proofs.Ytcmmafkmfahijaa
open Go.RowKit

def inF (x y z u v t : Nat) : Nat := ad (ad (mu x u) (mu y v)) (mu z t)
def loF (x y z : Nat) : Nat := rootF (inF x y z x y z)
/-- The numbers of the two ways r and s: the divisor, the quotient. -/
def segD (r0 r1 r2 s0 s1 s2 : Nat) : Nat := mu (mu (loF r0 r1 r2) (loF s0 s1 s2)) (ad (mu (loF r0 r1 r2) (loF s0 s1 s2)) (inF r0 r1 r2 s0 s1 s2))
def segQ (r0 r1 r2 s0 s1 s2 : Nat) : Nat := qu (ad (loF r0 r1 r2) (loF s0 s1 s2)) (segD r0 r1 r2 s0 s1 s2)
def posB (x : Nat) : Bool := FloatKind.f32.format.order x 0 == some .gt
def segB (r0 r1 r2 s0 s1 s2 : Nat) : Bool := posB (segD r0 r1 r2 s0 s1 s2) && finB (segQ r0 r1 r2 s0 s1 s2)
def segX (r0 r1 r2 s0 s1 s2 : Nat) : Nat := if segB r0 r1 r2 s0 s1 s2 then mu (sb (mu r1 s2) (mu r2 s1)) (segQ r0 r1 r2 s0 s1 s2) else 0
def segY (r0 r1 r2 s0 s1 s2 : Nat) : Nat := if segB r0 r1 r2 s0 s1 s2 then mu (sb (mu r2 s0) (mu r0 s2)) (segQ r0 r1 r2 s0 s1 s2) else 0
def segZ (r0 r1 r2 s0 s1 s2 : Nat) : Nat := if segB r0 r1 r2 s0 s1 s2 then mu (sb (mu r0 s1) (mu r1 s0)) (segQ r0 r1 r2 s0 s1 s2) else 0
theorem inF_same {x y z u v t x' y' z' u' v' t' : Nat} (h0 : Same .f32 x x') (h1 : Same .f32 y y') (h2 : Same .f32 z z') (h3 : Same .f32 u u') (h4 : Same .f32 v v') (h5 : Same .f32 t t') : Same .f32 (inF x y z u v t) (inF x' y' z' u' v' t') :=
  fop_same _ (fop_same _ (fop_same _ h0 h3) (fop_same _ h1 h4)) (fop_same _ h2 h5)
theorem loF_same {x y z x' y' z' : Nat} (h0 : Same .f32 x x') (h1 : Same .f32 y y') (h2 : Same .f32 z z') : Same .f32 (loF x y z) (loF x' y' z') := rootF_same (inF_same h0 h1 h2 h0 h1 h2)
theorem segD_same {r0 r1 r2 s0 s1 s2 r0' r1' r2' s0' s1' s2' : Nat} (h0 : Same .f32 r0 r0') (h1 : Same .f32 r1 r1') (h2 : Same .f32 r2 r2') (g0 : Same .f32 s0 s0') (g1 : Same .f32 s1 s1') (g2 : Same .f32 s2 s2') : Same .f32 (segD r0 r1 r2 s0 s1 s2) (segD r0' r1' r2' s0' s1' s2') :=
  fop_same _ (fop_same _ (loF_same h0 h1 h2) (loF_same g0 g1 g2)) (fop_same _ (fop_same _ (loF_same h0 h1 h2) (loF_same g0 g1 g2)) (inF_same h0 h1 h2 g0 g1 g2))
theorem segQ_same {r0 r1 r2 s0 s1 s2 r0' r1' r2' s0' s1' s2' : Nat} (h0 : Same .f32 r0 r0') (h1 : Same .f32 r1 r1') (h2 : Same .f32 r2 r2') (g0 : Same .f32 s0 s0') (g1 : Same .f32 s1 s1') (g2 : Same .f32 s2 s2') : Same .f32 (segQ r0 r1 r2 s0 s1 s2) (segQ r0' r1' r2' s0' s1' s2') :=
  fop_same _ (fop_same _ (loF_same h0 h1 h2) (loF_same g0 g1 g2)) (segD_same h0 h1 h2 g0 g1 g2)
theorem posB_same {x y : Nat} (h : Same .f32 x y) : posB x = posB y := by unfold posB; rw [order_same h (Same.refl _ 0)]
/-- The two ways' variables. -/
def TwoV (lo X Y Z U V T : Nat) (s t : Value) (w : World) : Prop :=
  ∃ g h p q r u v n, s = .pointer (some ⟨g, 0, none⟩) ∧ t = .pointer (some ⟨h, 0, none⟩) ∧ BoxV g p q r w ∧ BoxV h u v n w ∧ Same .f32 p X ∧ Same .f32 q Y ∧ Same .f32 r Z ∧ Same .f32 u U ∧ Same .f32 v V ∧ Same .f32 n T ∧ lo < g ∧ lo < h
theorem TwoV.mk {lo X Y Z U V T g h p q r u v n : Nat} {w : World} (hg : BoxV g p q r w) (hh : BoxV h u v n w) (h0 : Same .f32 p X) (h1 : Same .f32 q Y) (h2 : Same .f32 r Z) (h3 : Same .f32 u U) (h4 : Same .f32 v V) (h5 : Same .f32 n T) (l0 : lo < g) (l1 : lo < h) :
    TwoV lo X Y Z U V T (.pointer (some ⟨g, 0, none⟩)) (.pointer (some ⟨h, 0, none⟩)) w := ⟨g, h, p, q, r, u, v, n, rfl, rfl, hg, hh, h0, h1, h2, h3, h4, h5, l0, l1⟩
def TwoN (X Y : Nat) (s t : Value) : Prop := ∃ x y, s = .float .f32 x ∧ t = .float .f32 y ∧ Same .f32 x X ∧ Same .f32 y Y
def Mid6 (g p q r h u v n : Nat) (K : World → Prop) (w : World) : Prop := S6 g p q r h u v n K w
set_option maxRecDepth 100000 in
set_option maxHeartbeats 3200000 in
theorem spec_seg (x0 y0 z0 x1 y1 z1 x2 y2 z2 : Nat) (W : World) : Calls Try.prog 98 #[vecV x0 y0 z0, vecV x1 y1 z1, vecV x2 y2 z2] W (VecIs (segX (sb x2 x0) (sb y2 y0) (sb z2 z0) (sb x2 x1) (sb y2 y1) (sb z2 z1)) (segY (sb x2 x0) (sb y2 y0) (sb z2 z0) (sb x2 x1) (sb y2 y1) (sb z2 z1)) (segZ (sb x2 x0) (sb y2 y0) (sb z2 z0) (sb x2 x1) (sb y2 y1) (sb z2 z1)) W) := by
  obtain ⟨K, eK⟩ : ∃ K : World → Prop, K = ResK W (W.heap.size + 1 + 1 + 1) := ⟨_, rfl⟩
  have HK := Lib.hid eK
  have HL : Hid (Loc (W.heap.size + 1 + 1 + 1) (S9 W.heap.size x0 y0 z0 (W.heap.size + 1) x1 y1 z1 (W.heap.size + 1 + 1) x2 y2 z2 K)) := Lib.hid (Loc.s9 (by rw [eK]; exact ResK.loc (by omega)) (by omega) (by omega) (by omega))
  obtain ⟨w0, e0⟩ : ∃ w0, w0 = (((W.alloc (.cells #[.float .f32 x0, .float .f32 y0, .float .f32 z0] 47)).alloc (.cells #[.float .f32 x1, .float .f32 y1, .float .f32 z1] 47)).alloc (.cells #[.float .f32 x2, .float .f32 y2, .float .f32 z2] 47)).alloc (.cells #[.float .f32 0, .float .f32 0, .float .f32 0] 47) := ⟨_, rfl⟩
  have S0 : (S9 W.heap.size x0 y0 z0 (W.heap.size + 1) x1 y1 z1 (W.heap.size + 1 + 1) x2 y2 z2 K) w0 := by
    rw [eK, e0]
    exact S9.start W _
  have hs0 := Loc.size HL S0
  clear eK
  go_enter Try.func98, Try.ntmps98
  go_upto_region 1 with (fail)
  rw [← e0]
  clear e0
  go_upto_region 2 with ((go_at_call 93; refine (spec_less _ _ _ _ _ _ _).mono ?_; rintro e wb ⟨p, q, r, rfl, hp, hq, hr, hb⟩; have hSb : (S9 W.heap.size x0 y0 z0 (W.heap.size + 1) x1 y1 z1 (W.heap.size + 1 + 1) x2 y2 z2 K) wb := Loc.keep HL hb (by first | exact hSb | exact Loc.alloc HL hSb _ | exact Loc.alloc HL (Loc.alloc HL hSb _) _ | exact S0 | exact Loc.drew HL S0 | exact Loc.drew HL (Loc.alloc HL S0 _) | exact Loc.drew HL (Loc.alloc HL (Loc.alloc HL S0 _) _)); have hz := hb.size; (try rw [drewSize] at hz); (try simp only [World.size_alloc] at hz); have hs := Loc.size HL hSb; (first | (with_reducible have hn2 := R6.keep (by assumption) hb) | (with_reducible have hn2 := R6.both hb) | (with_reducible have hn2 := R6.bothD hb) | (with_reducible have hn2 := R6.next (by assumption) hb) | (with_reducible have hn1 := newCells hb) | (with_reducible have hn1 := newCellsD hb) | (with_reducible have hn1 := carryCells (by assumption) hb) | skip); (try have hq1 := R3.lt hn1); (try have hq2 := R6.lt hn2); have hl0 : W.heap.size < wb.heap.size := (by omega); have hl1 : W.heap.size + 1 < wb.heap.size := (by omega); have hl2 : W.heap.size + 1 + 1 < wb.heap.size := (by omega)))
  go_cut [7, 8] (fun s7 s8 wx => TwoV (W.heap.size + 1 + 1 + 1) (sb x2 x0) (sb y2 y0) (sb z2 z0) (sb x2 x1) (sb y2 y1) (sb z2 z1) s7 s8 wx ∧ K wx)
  case first =>
    go_wp2_with (go_at_call 93; refine (spec_less _ _ _ _ _ _ _).mono ?_; rintro e wb ⟨p, q, r, rfl, hp, hq, hr, hb⟩; have hSb : (S9 W.heap.size x0 y0 z0 (W.heap.size + 1) x1 y1 z1 (W.heap.size + 1 + 1) x2 y2 z2 K) wb := Loc.keep HL hb (by first | exact hSb | exact Loc.alloc HL hSb _ | exact Loc.alloc HL (Loc.alloc HL hSb _) _ | exact S0 | exact Loc.drew HL S0 | exact Loc.drew HL (Loc.alloc HL S0 _) | exact Loc.drew HL (Loc.alloc HL (Loc.alloc HL S0 _) _)); have hz := hb.size; (try rw [drewSize] at hz); (try simp only [World.size_alloc] at hz); have hs := Loc.size HL hSb; (first | (with_reducible have hn2 := R6.keep (by assumption) hb) | (with_reducible have hn2 := R6.both hb) | (with_reducible have hn2 := R6.bothD hb) | (with_reducible have hn2 := R6.next (by assumption) hb) | (with_reducible have hn1 := newCells hb) | (with_reducible have hn1 := newCellsD hb) | (with_reducible have hn1 := carryCells (by assumption) hb) | skip); (try have hq1 := R3.lt hn1); (try have hq2 := R6.lt hn2); have hl0 : W.heap.size < wb.heap.size := (by omega); have hl1 : W.heap.size + 1 < wb.heap.size := (by omega); have hl2 : W.heap.size + 1 + 1 < wb.heap.size := (by omega))
    go_meet
    refine ⟨?_, S9.whole (by with_reducible exact Loc.alloc HL hSb _)⟩
    apply TwoV.mk
    · (repeat' (first | with_reducible exact BoxV.new0 | with_reducible exact BoxV.new1 | with_reducible exact BoxV.new2 | with_reducible exact Any3.of (by assumption) | with_reducible exact Any3.fst (by assumption) | with_reducible exact Any3.snd (by assumption) | with_reducible apply BoxV.set | with_reducible apply BoxV.past | with_reducible apply BoxV.alloc | with_reducible exact BoxV.of hn1 | with_reducible apply Any3.past | with_reducible apply Any3.alloc | omega))
    · (repeat' (first | with_reducible exact BoxV.new0 | with_reducible exact BoxV.new1 | with_reducible exact BoxV.new2 | with_reducible exact Any3.of (by assumption) | with_reducible exact Any3.fst (by assumption) | with_reducible exact Any3.snd (by assumption) | with_reducible apply BoxV.set | with_reducible apply BoxV.past | with_reducible apply BoxV.alloc | with_reducible exact BoxV.of hn1 | with_reducible apply Any3.past | with_reducible apply Any3.alloc | omega))
    all_goals (first | with_reducible assumption | omega)
  case rest =>
  obtain ⟨⟨g, h, p, q, r, u, v, n, rfl, rfl, bg, bh, e0, e1, e2, e3, e4, e5, lg, lh⟩, hK⟩ := hcut
  have HE := Lib.hid (And.intro e0 (And.intro e1 (And.intro e2 (And.intro e3 (And.intro e4 e5)))))
  clear e0 e1 e2 e3 e4 e5 S0 HL hs0
  have S0 : S6 g p q r h u v n K wc := ⟨bg.1, bg.2.1, bg.2.2, bh.1, bh.2.1, bh.2.2, hK⟩
  have HL : Hid (Loc (max g h) (S6 g p q r h u v n K)) := Lib.hid (Loc.s6 (by rw [HK.out]; exact ResK.loc (by omega)) (by omega))
  have HR : Hid (∀ w, K w → R3 (W.heap.size + 1 + 1 + 1) (.float .f32 0) (.float .f32 0) (.float .f32 0) w) := Lib.hid (fun w k => by rw [HK.out] at k; exact k.1)
  clear bg bh hK
  go_upto_region 4 with ((go_at_call 110; refine (spec_long _ _ _ _).mono ?_; rintro e wb ⟨x, rfl, hx, hb⟩; have hSb : S6 g p q r h u v n K wb := Loc.keep HL hb (by first | exact hSb | exact S0 | exact Loc.drew HL S0); clear hb))
  go_cut [9, 10] (fun s9 s10 wx => TwoN (loF p q r) (loF u v n) s9 s10 ∧ Mid6 g p q r h u v n K wx)
  case first =>
    go_wp2_with ((go_at_call 110; refine (spec_long _ _ _ _).mono ?_; rintro e wb ⟨x, rfl, hx, hb⟩; have hSb : S6 g p q r h u v n K wb := Loc.keep HL hb (by first | exact hSb | exact S0 | exact Loc.drew HL S0); clear hb))
    go_meet
    exact ⟨⟨_, _, rfl, rfl, by assumption, by assumption⟩, hSb⟩
  case rest =>
  obtain ⟨⟨x, y, rfl, rfl, hx, hy⟩, S0⟩ := hcut
  have S0 : S6 g p q r h u v n K wc := S0
  go_upto_region 7 with (first | (refine wpList_fop rfl rfl rfl rfl rfl ?_; intro _ _ _) | (go_at_call 90; refine (spec_inner _ _ _ _ _ _ _).mono ?_; rintro e wb ⟨i1, rfl, hi, hb⟩; have hSb : S6 g p q r h u v n K wb := Loc.keep HL hb (by repeat (first | exact S0 | refine Loc.drewN HL ?_ _)); clear hb))
  go_cut [12, 13] (fun s12 s13 wx => TwoN (segD p q r u v n) (segQ p q r u v n) s12 s13 ∧ Mid6 g p q r h u v n K wx)
  case first =>
    go_wp2_with ((refine wpList_fop rfl rfl rfl rfl rfl ?_; intro _ _ _))
    go_meet
    refine ⟨⟨_, _, rfl, rfl, ?_, ?_⟩, ?_⟩
    · unfold segD inF
      (repeat' (first | exact Same.refl _ _ | assumption | (apply Same.step; assumption)))
    · unfold segQ segD inF
      (repeat' (first | exact Same.refl _ _ | assumption | (apply Same.step; assumption)))
    · show S6 g p q r h u v n K _
      repeat (first | exact hSb | refine Loc.drewN HL ?_ _)
  case rest =>
  obtain ⟨⟨d, f, rfl, rfl, hd, hf⟩, S0⟩ := hcut
  have S0 : S6 g p q r h u v n K wc := S0
  obtain ⟨e0, e1, e2, e3, e4, e5⟩ := HE.out
  have D0 := posB_same (hd.trans (segD_same e0 e1 e2 e3 e4 e5))
  have Q0 := finB_same (hf.trans (segQ_same e0 e1 e2 e3 e4 e5))
  have HQ := Lib.hid (And.intro D0 (And.intro Q0 (hf.trans (segQ_same e0 e1 e2 e3 e4 e5))))
  clear D0 Q0 hd hf e0 e1 e2 e3 e4 e5 hx hy
  cases hD : (FloatKind.f32.format.order d 0 == some .gt) <;> cases hQ : finB f
  case true.true =>
    have eB : Hid (segB (sb x2 x0) (sb y2 y0) (sb z2 z0) (sb x2 x1) (sb y2 y1) (sb z2 z1) = true) := Lib.hid (by unfold segB; rw [← HQ.out.1, ← HQ.out.2.1, hQ, Bool.and_true]; exact hD)
    go_wp2_with (first | (go_at_call 73; refine (spec_l01Finite _ _).mono ?_; rw [hQ]; rintro e w' ⟨rfl, nn, rfl⟩) | (go_at_call 111; refine (spec_cross _ _ _ _ _ _ _).mono ?_; rintro e wb ⟨c0, c1, c2, rfl, hc0, hc1, hc2, hb⟩; have hSb : S6 g p q r h u v n K wb := Loc.keep HL hb (by repeat (first | exact S0 | refine Loc.drewN HL ?_ _)); have HC := Lib.hid (And.intro hc0 (And.intro hc1 hc2)); clear hb hc0 hc1 hc2) | (go_at_call 92; refine (spec_scale _ _ _ _ _).mono ?_; rintro e wd ⟨a0, a1, a2, rfl, ha0, ha1, ha2, hb⟩; have hSd : S6 g p q r h u v n K wd := Loc.keep HL hb hSb; have hr3 := HR.out _ (S6.whole hSd); have HA := Lib.hid (And.intro ha0 (And.intro ha1 ha2)); clear hb ha0 ha1 ha2))
    obtain ⟨t0, t1, t2⟩ := setThree (a := .float .f32 a0) (b := .float .f32 a1) (c := .float .f32 a2) hr3.1 hr3.2.1 hr3.2.2.1
    refine bodyPost_ret (v := vecV a0 a1 a2) (by simp [results, Try.results98, go_sem, t0, t1, t2]) rfl ?_
    obtain ⟨ha0, ha1, ha2⟩ := HA.out
    obtain ⟨hc0, hc1, hc2⟩ := HC.out
    obtain ⟨e0, e1, e2, e3, e4, e5⟩ := HE.out
    have hK := S6.whole hSd
    rw [HK.out] at hK
    refine ⟨_, _, _, rfl, ?_, ?_, ?_, belowSet (belowSet (belowSet hK.2 (by omega)) (by omega)) (by omega)⟩
    · unfold segX; rw [if_pos eB.out]; exact (ha0.trans (fop_same _ hc0 (Same.refl _ _))).trans (fop_same _ (fop_same _ (fop_same _ e1 e5) (fop_same _ e2 e4)) HQ.out.2.2)
    · unfold segY; rw [if_pos eB.out]; exact (ha1.trans (fop_same _ hc1 (Same.refl _ _))).trans (fop_same _ (fop_same _ (fop_same _ e2 e3) (fop_same _ e0 e5)) HQ.out.2.2)
    · unfold segZ; rw [if_pos eB.out]; exact (ha2.trans (fop_same _ hc2 (Same.refl _ _))).trans (fop_same _ (fop_same _ (fop_same _ e0 e4) (fop_same _ e1 e3)) HQ.out.2.2)
  case true.false =>
    have eB : Hid (segB (sb x2 x0) (sb y2 y0) (sb z2 z0) (sb x2 x1) (sb y2 y1) (sb z2 z1) = false) := Lib.hid (by unfold segB; rw [← HQ.out.1, ← HQ.out.2.1, hQ]; unfold posB; rw [hD]; rfl)
    have hr3 := HR.out _ (S6.whole S0)
    have hK := S6.whole S0
    rw [HK.out] at hK
    have HB := Lib.hid hK.2
    clear hK
    go_wp2_with (go_at_call 73; refine (spec_l01Finite _ _).mono ?_; rw [hQ]; rintro e w' ⟨rfl, nn, rfl⟩)
    obtain ⟨t0, t1, t2⟩ := setThree (w := wc.drewN nn) (a := .float .f32 0) (b := .float .f32 0) (c := .float .f32 0) hr3.1 hr3.2.1 hr3.2.2.1
    refine bodyPost_ret (v := vecV 0 0 0) (by simp [results, Try.results98, go_sem, t0, t1, t2]) rfl ?_
    refine ⟨_, _, _, rfl, ?_, ?_, ?_, ?_⟩
    · unfold segX; rw [if_neg (by rw [eB.out]; decide)]; exact Same.refl _ _
    · unfold segY; rw [if_neg (by rw [eB.out]; decide)]; exact Same.refl _ _
    · unfold segZ; rw [if_neg (by rw [eB.out]; decide)]; exact Same.refl _ _
    · first | exact belowSet (belowSet (belowSet HB.out (by omega)) (by omega)) (by omega) | exact below_drewN (belowSet (belowSet (belowSet HB.out (by omega)) (by omega)) (by omega)) _ | exact belowSet (belowSet (belowSet (below_drewN HB.out _) (by omega)) (by omega)) (by omega)
  all_goals
    have eB : Hid (segB (sb x2 x0) (sb y2 y0) (sb z2 z0) (sb x2 x1) (sb y2 y1) (sb z2 z1) = false) := Lib.hid (by unfold segB; rw [← HQ.out.1, ← HQ.out.2.1, hQ]; unfold posB; rw [hD]; rfl)
    have hr3 := HR.out _ (S6.whole S0)
    have hK := S6.whole S0
    rw [HK.out] at hK
    have HB := Lib.hid hK.2
    clear hK
    go_wp2_with (go_at_call 73; refine (spec_l01Finite _ _).mono ?_; rw [hQ]; rintro e w' ⟨rfl, nn, rfl⟩)
    obtain ⟨t0, t1, t2⟩ := setThree (w := wc) (a := .float .f32 0) (b := .float .f32 0) (c := .float .f32 0) hr3.1 hr3.2.1 hr3.2.2.1
    refine bodyPost_ret (v := vecV 0 0 0) (by simp [results, Try.results98, go_sem, t0, t1, t2]) rfl ?_
    refine ⟨_, _, _, rfl, ?_, ?_, ?_, ?_⟩
    · unfold segX; rw [if_neg (by rw [eB.out]; decide)]; exact Same.refl _ _
    · unfold segY; rw [if_neg (by rw [eB.out]; decide)]; exact Same.refl _ _
    · unfold segZ; rw [if_neg (by rw [eB.out]; decide)]; exact Same.refl _ _
    · first | exact belowSet (belowSet (belowSet HB.out (by omega)) (by omega)) (by omega) | exact below_drewN (belowSet (belowSet (belowSet HB.out (by omega)) (by omega)) (by omega)) _ | exact belowSet (belowSet (belowSet (below_drewN HB.out _) (by omega)) (by omega)) (by omega)
set_option maxRecDepth 100000 in
set_option maxHeartbeats 3200000 in
theorem impl_seg (x0 y0 z0 x1 y1 z1 x2 y2 z2 : Nat) (W : World) : Calls Try.prog 54 #[vecV x0 y0 z0, vecV x1 y1 z1, vecV x2 y2 z2] W (VecIs (segX (sb x2 x0) (sb y2 y0) (sb z2 z0) (sb x2 x1) (sb y2 y1) (sb z2 z1)) (segY (sb x2 x0) (sb y2 y0) (sb z2 z0) (sb x2 x1) (sb y2 y1) (sb z2 z1)) (segZ (sb x2 x0) (sb y2 y0) (sb z2 z0) (sb x2 x1) (sb y2 y1) (sb z2 z1)) W) := by
  obtain ⟨K, eK⟩ : ∃ K : World → Prop, K = ResK W (W.heap.size + 1 + 1 + 1) := ⟨_, rfl⟩
  have HK := Lib.hid eK
  have HL : Hid (Loc (W.heap.size + 1 + 1 + 1) (S9 W.heap.size x0 y0 z0 (W.heap.size + 1) x1 y1 z1 (W.heap.size + 1 + 1) x2 y2 z2 K)) := Lib.hid (Loc.s9 (by rw [eK]; exact ResK.loc (by omega)) (by omega) (by omega) (by omega))
  obtain ⟨w0, e0⟩ : ∃ w0, w0 = (((W.alloc (.cells #[.float .f32 x0, .float .f32 y0, .float .f32 z0] 47)).alloc (.cells #[.float .f32 x1, .float .f32 y1, .float .f32 z1] 47)).alloc (.cells #[.float .f32 x2, .float .f32 y2, .float .f32 z2] 47)).alloc (.cells #[.float .f32 0, .float .f32 0, .float .f32 0] 47) := ⟨_, rfl⟩
  have S0 : (S9 W.heap.size x0 y0 z0 (W.heap.size + 1) x1 y1 z1 (W.heap.size + 1 + 1) x2 y2 z2 K) w0 := by
    rw [eK, e0]
    exact S9.start W _
  have hs0 := Loc.size HL S0
  clear eK
  go_enter Try.func54, Try.ntmps54
  go_upto_region 1 with (fail)
  rw [← e0]
  clear e0
  go_upto_region 1 with ((go_at_call 97; refine (impl_less _ _ _ _ _ _ _).mono ?_; rintro e wb ⟨p, q, r, rfl, hp, hq, hr, hb⟩; have hSb : (S9 W.heap.size x0 y0 z0 (W.heap.size + 1) x1 y1 z1 (W.heap.size + 1 + 1) x2 y2 z2 K) wb := Loc.keep HL hb (by first | exact hSb | exact Loc.alloc HL hSb _ | exact Loc.alloc HL (Loc.alloc HL hSb _) _ | exact S0 | exact Loc.drew HL S0 | exact Loc.drew HL (Loc.alloc HL S0 _) | exact Loc.drew HL (Loc.alloc HL (Loc.alloc HL S0 _) _)); have hz := hb.size; (try rw [drewSize] at hz); (try simp only [World.size_alloc] at hz); have hs := Loc.size HL hSb; (first | (with_reducible have hn2 := R6.keep (by assumption) hb) | (with_reducible have hn2 := R6.both hb) | (with_reducible have hn2 := R6.bothD hb) | (with_reducible have hn2 := R6.next (by assumption) hb) | (with_reducible have hn1 := newCells hb) | (with_reducible have hn1 := newCellsD hb) | (with_reducible have hn1 := carryCells (by assumption) hb) | skip); (try have hq1 := R3.lt hn1); (try have hq2 := R6.lt hn2); skip))
  go_cut [7, 8] (fun s7 s8 wx => TwoV (W.heap.size + 1 + 1 + 1) (sb x2 x0) (sb y2 y0) (sb z2 z0) (sb x2 x1) (sb y2 y1) (sb z2 z1) s7 s8 wx ∧ K wx)
  case first =>
    go_region_held3 (S9 W.heap.size x0 y0 z0 (W.heap.size + 1) x1 y1 z1 (W.heap.size + 1 + 1) x2 y2 z2 K) (with_reducible (first | exact S0 | exact Loc.drew HL S0 | exact Loc.drew HL (Loc.alloc HL S0 _) | exact Loc.drew HL (Loc.alloc HL (Loc.alloc HL S0 _) _) | exact hSb | exact (Loc.alloc HL hSb _) | exact (Loc.alloc HL (Loc.alloc HL hSb _) _) | exact (Loc.set HL (Loc.set HL (Loc.set HL hSb (by omega)) (by omega)) (by omega)) | exact (Loc.alloc HL (Loc.set HL (Loc.set HL (Loc.set HL hSb (by omega)) (by omega)) (by omega)) _) | exact (Loc.alloc HL (Loc.alloc HL (Loc.set HL (Loc.set HL (Loc.set HL hSb (by omega)) (by omega)) (by omega)) _) _) | exact (Loc.set HL (Loc.set HL (Loc.set HL (Loc.set HL (Loc.set HL (Loc.set HL hSb (by omega)) (by omega)) (by omega)) (by omega)) (by omega)) (by omega)) | exact (Loc.alloc HL (Loc.set HL (Loc.set HL (Loc.set HL (Loc.set HL (Loc.set HL (Loc.set HL hSb (by omega)) (by omega)) (by omega)) (by omega)) (by omega)) (by omega)) _) | exact (Loc.alloc HL (Loc.alloc HL (Loc.set HL (Loc.set HL (Loc.set HL (Loc.set HL (Loc.set HL (Loc.set HL hSb (by omega)) (by omega)) (by omega)) (by omega)) (by omega)) (by omega)) _) _)))
      (first
        | (go_at_call 97; refine (impl_less _ _ _ _ _ _ _).mono ?_; rintro e wb ⟨p, q, r, rfl, hp, hq, hr, hb⟩; have hSb : (S9 W.heap.size x0 y0 z0 (W.heap.size + 1) x1 y1 z1 (W.heap.size + 1 + 1) x2 y2 z2 K) wb := Loc.keep HL hb (by first | exact hSb | exact Loc.alloc HL hSb _ | exact Loc.alloc HL (Loc.alloc HL hSb _) _ | exact S0 | exact Loc.drew HL S0 | exact Loc.drew HL (Loc.alloc HL S0 _) | exact Loc.drew HL (Loc.alloc HL (Loc.alloc HL S0 _) _)); have hz := hb.size; (try rw [drewSize] at hz); (try simp only [World.size_alloc] at hz); have hs := Loc.size HL hSb; (first | (with_reducible have hn2 := R6.keep (by assumption) hb) | (with_reducible have hn2 := R6.both hb) | (with_reducible have hn2 := R6.bothD hb) | (with_reducible have hn2 := R6.next (by assumption) hb) | (with_reducible have hn1 := newCells hb) | (with_reducible have hn1 := newCellsD hb) | (with_reducible have hn1 := carryCells (by assumption) hb) | skip); (try have hq1 := R3.lt hn1); (try have hq2 := R6.lt hn2); skip))
    all_goals
      go_wp2_with fail
      go_meet
      refine ⟨?_, S9.whole (by with_reducible assumption)⟩
      apply TwoV.mk
      · (repeat' (first | with_reducible exact BoxV.new0 | with_reducible exact BoxV.new1 | with_reducible exact BoxV.new2 | with_reducible exact Any3.of (by assumption) | with_reducible exact Any3.fst (by assumption) | with_reducible exact Any3.snd (by assumption) | with_reducible apply BoxV.set | with_reducible apply BoxV.past | with_reducible apply BoxV.alloc | with_reducible exact BoxV.of hn1 | with_reducible apply Any3.past | with_reducible apply Any3.alloc | omega))
      · (repeat' (first | with_reducible exact BoxV.new0 | with_reducible exact BoxV.new1 | with_reducible exact BoxV.new2 | with_reducible exact Any3.of (by assumption) | with_reducible exact Any3.fst (by assumption) | with_reducible exact Any3.snd (by assumption) | with_reducible apply BoxV.set | with_reducible apply BoxV.past | with_reducible apply BoxV.alloc | with_reducible exact BoxV.of hn1 | with_reducible apply Any3.past | with_reducible apply Any3.alloc | omega))
      all_goals (first | with_reducible assumption | omega)
  case rest =>
  obtain ⟨⟨g, h, p, q, r, u, v, n, rfl, rfl, bg, bh, e0, e1, e2, e3, e4, e5, lg, lh⟩, hK⟩ := hcut
  have HE := Lib.hid (And.intro e0 (And.intro e1 (And.intro e2 (And.intro e3 (And.intro e4 e5)))))
  clear e0 e1 e2 e3 e4 e5 S0 HL hs0
  have S0 : S6 g p q r h u v n K wc := ⟨bg.1, bg.2.1, bg.2.2, bh.1, bh.2.1, bh.2.2, hK⟩
  have HL : Hid (Loc (max g h) (S6 g p q r h u v n K)) := Lib.hid (Loc.s6 (by rw [HK.out]; exact ResK.loc (by omega)) (by omega))
  have HR : Hid (∀ w, K w → R3 (W.heap.size + 1 + 1 + 1) (.float .f32 0) (.float .f32 0) (.float .f32 0) w) := Lib.hid (fun w k => by rw [HK.out] at k; exact k.1)
  clear bg bh hK
  go_upto_region 2 with ((go_at_call 42; refine (impl_long _ _ _ _).mono ?_; rintro e wb ⟨x, rfl, hx, hb⟩; have hSb : S6 g p q r h u v n K wb := Loc.keep HL hb (by first | exact hSb | exact S0 | exact Loc.drew HL S0); clear hb))
  go_cut [9, 10] (fun s9 s10 wx => TwoN (loF p q r) (loF u v n) s9 s10 ∧ Mid6 g p q r h u v n K wx)
  case first =>
    go_region_held3 (S6 g p q r h u v n K) (with_reducible (first | exact hSb | exact S0 | exact Loc.drew HL S0))
      (first
        | (go_at_call 42; refine (impl_long _ _ _ _).mono ?_; rintro e wb ⟨x, rfl, hx, hb⟩; have hSb : S6 g p q r h u v n K wb := Loc.keep HL hb (by first | exact hSb | exact S0 | exact Loc.drew HL S0); clear hb))
    go_wp2_with fail
    go_meet
    exact ⟨⟨_, _, rfl, rfl, by assumption, by assumption⟩, hSb⟩
  case rest =>
  obtain ⟨⟨x, y, rfl, rfl, hx, hy⟩, S0⟩ := hcut
  have S0 : S6 g p q r h u v n K wc := S0
  go_upto_region 5 with (first | (refine wpList_fop rfl rfl rfl rfl rfl ?_; intro _ _ _) | (go_at_call 82; refine (impl_inner _ _ _ _ _ _ _).mono ?_; rintro e wb ⟨i1, rfl, hi, hb⟩; have hSb : S6 g p q r h u v n K wb := Loc.keep HL hb (by repeat (first | exact S0 | refine Loc.drewN HL ?_ _)); clear hb))
  go_cut [12, 13] (fun s12 s13 wx => TwoN (segD p q r u v n) (segQ p q r u v n) s12 s13 ∧ Mid6 g p q r h u v n K wx)
  case first =>
    go_wp2_with ((refine wpList_fop rfl rfl rfl rfl rfl ?_; intro _ _ _))
    go_meet
    refine ⟨⟨_, _, rfl, rfl, ?_, ?_⟩, ?_⟩
    · unfold segD inF
      (repeat' (first | exact Same.refl _ _ | assumption | (apply Same.step; assumption)))
    · unfold segQ segD inF
      (repeat' (first | exact Same.refl _ _ | assumption | (apply Same.step; assumption)))
    · show S6 g p q r h u v n K _
      repeat (first | exact hSb | refine Loc.drewN HL ?_ _)
  case rest =>
  obtain ⟨⟨d, f, rfl, rfl, hd, hf⟩, S0⟩ := hcut
  have S0 : S6 g p q r h u v n K wc := S0
  obtain ⟨e0, e1, e2, e3, e4, e5⟩ := HE.out
  have D0 := posB_same (hd.trans (segD_same e0 e1 e2 e3 e4 e5))
  have Q0 := finB_same (hf.trans (segQ_same e0 e1 e2 e3 e4 e5))
  have HQ := Lib.hid (And.intro D0 (And.intro Q0 (hf.trans (segQ_same e0 e1 e2 e3 e4 e5))))
  clear D0 Q0 hd hf e0 e1 e2 e3 e4 e5 hx hy
  cases hD : (FloatKind.f32.format.order d 0 == some .gt) <;> cases hQ : finB f
  case true.true =>
    have eB : Hid (segB (sb x2 x0) (sb y2 y0) (sb z2 z0) (sb x2 x1) (sb y2 y1) (sb z2 z1) = true) := Lib.hid (by unfold segB; rw [← HQ.out.1, ← HQ.out.2.1, hQ, Bool.and_true]; exact hD)
    go_wp2_with (first | (go_at_call 35; refine (impl_IsFinite _ _).mono ?_; rw [hQ]; rintro e w' ⟨rfl, nn, rfl⟩) | (go_at_call 99; refine (impl_cross _ _ _ _ _ _ _).mono ?_; rintro e wb ⟨c0, c1, c2, rfl, hc0, hc1, hc2, hb⟩; have hSb : S6 g p q r h u v n K wb := Loc.keep HL hb (by repeat (first | exact S0 | refine Loc.drewN HL ?_ _)); have HC := Lib.hid (And.intro hc0 (And.intro hc1 hc2)); clear hb hc0 hc1 hc2) | (go_at_call 96; refine (impl_scale _ _ _ _ _).mono ?_; rintro e wd ⟨a0, a1, a2, rfl, ha0, ha1, ha2, hb⟩; have hSd : S6 g p q r h u v n K wd := Loc.keep HL hb hSb; have hr3 := HR.out _ (S6.whole hSd); have HA := Lib.hid (And.intro ha0 (And.intro ha1 ha2)); clear hb ha0 ha1 ha2))
    obtain ⟨t0, t1, t2⟩ := setThree (a := .float .f32 a0) (b := .float .f32 a1) (c := .float .f32 a2) hr3.1 hr3.2.1 hr3.2.2.1
    refine bodyPost_ret (v := vecV a0 a1 a2) (by simp [results, Try.results54, go_sem, t0, t1, t2]) rfl ?_
    obtain ⟨ha0, ha1, ha2⟩ := HA.out
    obtain ⟨hc0, hc1, hc2⟩ := HC.out
    obtain ⟨e0, e1, e2, e3, e4, e5⟩ := HE.out
    have hK := S6.whole hSd
    rw [HK.out] at hK
    refine ⟨_, _, _, rfl, ?_, ?_, ?_, belowSet (belowSet (belowSet hK.2 (by omega)) (by omega)) (by omega)⟩
    · unfold segX; rw [if_pos eB.out]; exact (ha0.trans (fop_same _ hc0 (Same.refl _ _))).trans (fop_same _ (fop_same _ (fop_same _ e1 e5) (fop_same _ e2 e4)) HQ.out.2.2)
    · unfold segY; rw [if_pos eB.out]; exact (ha1.trans (fop_same _ hc1 (Same.refl _ _))).trans (fop_same _ (fop_same _ (fop_same _ e2 e3) (fop_same _ e0 e5)) HQ.out.2.2)
    · unfold segZ; rw [if_pos eB.out]; exact (ha2.trans (fop_same _ hc2 (Same.refl _ _))).trans (fop_same _ (fop_same _ (fop_same _ e0 e4) (fop_same _ e1 e3)) HQ.out.2.2)
  case true.false =>
    have eB : Hid (segB (sb x2 x0) (sb y2 y0) (sb z2 z0) (sb x2 x1) (sb y2 y1) (sb z2 z1) = false) := Lib.hid (by unfold segB; rw [← HQ.out.1, ← HQ.out.2.1, hQ]; unfold posB; rw [hD]; rfl)
    have hr3 := HR.out _ (S6.whole S0)
    have hK := S6.whole S0
    rw [HK.out] at hK
    have HB := Lib.hid hK.2
    clear hK
    go_wp2_with (go_at_call 35; refine (impl_IsFinite _ _).mono ?_; rw [hQ]; rintro e w' ⟨rfl, nn, rfl⟩)
    obtain ⟨t0, t1, t2⟩ := setThree (w := wc.drewN nn) (a := .float .f32 0) (b := .float .f32 0) (c := .float .f32 0) hr3.1 hr3.2.1 hr3.2.2.1
    refine bodyPost_ret (v := vecV 0 0 0) (by simp [results, Try.results54, go_sem, t0, t1, t2]) rfl ?_
    refine ⟨_, _, _, rfl, ?_, ?_, ?_, ?_⟩
    · unfold segX; rw [if_neg (by rw [eB.out]; decide)]; exact Same.refl _ _
    · unfold segY; rw [if_neg (by rw [eB.out]; decide)]; exact Same.refl _ _
    · unfold segZ; rw [if_neg (by rw [eB.out]; decide)]; exact Same.refl _ _
    · first | exact belowSet (belowSet (belowSet HB.out (by omega)) (by omega)) (by omega) | exact below_drewN (belowSet (belowSet (belowSet HB.out (by omega)) (by omega)) (by omega)) _ | exact belowSet (belowSet (belowSet (below_drewN HB.out _) (by omega)) (by omega)) (by omega)
  all_goals
    have eB : Hid (segB (sb x2 x0) (sb y2 y0) (sb z2 z0) (sb x2 x1) (sb y2 y1) (sb z2 z1) = false) := Lib.hid (by unfold segB; rw [← HQ.out.1, ← HQ.out.2.1, hQ]; unfold posB; rw [hD]; rfl)
    have hr3 := HR.out _ (S6.whole S0)
    have hK := S6.whole S0
    rw [HK.out] at hK
    have HB := Lib.hid hK.2
    clear hK
    go_wp2_with (go_at_call 35; refine (impl_IsFinite _ _).mono ?_; rw [hQ]; rintro e w' ⟨rfl, nn, rfl⟩)
    obtain ⟨t0, t1, t2⟩ := setThree (w := wc) (a := .float .f32 0) (b := .float .f32 0) (c := .float .f32 0) hr3.1 hr3.2.1 hr3.2.2.1
    refine bodyPost_ret (v := vecV 0 0 0) (by simp [results, Try.results54, go_sem, t0, t1, t2]) rfl ?_
    refine ⟨_, _, _, rfl, ?_, ?_, ?_, ?_⟩
    · unfold segX; rw [if_neg (by rw [eB.out]; decide)]; exact Same.refl _ _
    · unfold segY; rw [if_neg (by rw [eB.out]; decide)]; exact Same.refl _ _
    · unfold segZ; rw [if_neg (by rw [eB.out]; decide)]; exact Same.refl _ _
    · first | exact belowSet (belowSet (belowSet HB.out (by omega)) (by omega)) (by omega) | exact below_drewN (belowSet (belowSet (belowSet HB.out (by omega)) (by omega)) (by omega)) _ | exact belowSet (belowSet (belowSet (below_drewN HB.out _) (by omega)) (by omega)) (by omega)
theorem spec_SegmentField (x0 y0 z0 x1 y1 z1 x2 y2 z2 : Nat) (W : World) : Calls Try.prog 53 #[vecV x0 y0 z0, vecV x1 y1 z1, vecV x2 y2 z2] W (VecIs (segX (sb x2 x0) (sb y2 y0) (sb z2 z0) (sb x2 x1) (sb y2 y1) (sb z2 z1)) (segY (sb x2 x0) (sb y2 y0) (sb z2 z0) (sb x2 x1) (sb y2 y1) (sb z2 z1)) (segZ (sb x2 x0) (sb y2 y0) (sb z2 z0) (sb x2 x1) (sb y2 y1) (sb z2 z1)) W) := by
  go_enter Try.func53, Try.ntmps53
  go_wp2_with (first | (go_at_call 98; refine (spec_seg _ _ _ _ _ _ _ _ _ _).mono ?_; rintro e w' ⟨p, q, r, rfl, hp, hq, hr, hb⟩; obtain ⟨hc, hf⟩ := bcell hb; have hn := newCells hb; (try simp only [World.size_alloc] at hn); have HB := Lib.hid hb; clear hb))
  obtain ⟨t0, t1, t2⟩ := setThree (a := .float .f32 p) (b := .float .f32 q) (c := .float .f32 r) hn.1 hn.2.1 hn.2.2.1
  refine bodyPost_ret (v := vecV p q r) (by simp [results, Try.results53, go_sem, t0, t1, t2]) rfl ?_
  refine ⟨_, _, _, rfl, hp, hq, hr, belowSet (belowSet (belowSet (belowNext (belowAlloc (belowAlloc (belowAlloc (belowAlloc (Below.refl W.heap.size W) _) _) _) _) HB.out) ?_) ?_) ?_⟩
  all_goals omega
end Go.Proofs.Ytcmmafkmfahijaa
