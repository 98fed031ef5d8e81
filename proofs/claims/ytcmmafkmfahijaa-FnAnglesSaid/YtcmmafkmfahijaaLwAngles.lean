/- The given statement FnAngles: the program's function and the reference's agree, for every input. Conditions: none beyond the statement's own. -/
import Derived.Test.YtcmmafkmfahijaaAngL
import Derived.Test.YtcmmafkmfahijaaNumb
import Derived.Test.YtcmmafkmfahijaaPr
import Derived.Test.YtcmmafkmfahijaaOpen
import Derived.Test.YtcmmafkmfahijaaRows
import Derived.ProofKit
import Derived.OpenShut
import Derived.ShutString
import Derived.ChangeOld
import Derived.Below
import Derived.LoopTactic
import Derived.Deep.RegionHeld3
import Derived.Deep.DeepCutAuto
namespace Go.Proofs.Ytcmmafkmfahijaa.fnAngles
open Go.ChangeShapes Go.WideShapes Go.ChangeAt Go.RowKit
open Go.ChangeMaps (open_string shut_string)
set_option linter.unusedVariables false
open Ieee (single double)
theorem Bytes.step {n : Nat} {a : Option Addr} {w w' : World} (hb : Below w.heap.size w w') (h : Bytes w.heap.size a n w) : Bytes w'.heap.size a n w' := by
  rcases h with h | ⟨b, o, e, l, h⟩
  · exact .inl h
  · exact .inr ⟨b, o, e, Nat.lt_of_lt_of_le l hb.size, fun i hi => (h i hi).imp fun v hv => ⟨hv.1, hv.2.1, cellKeep hb hv.2.2⟩⟩
theorem long_no {n : Nat} (h : n ≤ 1048576) : decide ((1048576 : Int) < (n : Int)) = false := decide_eq_false (by omega)
theorem long_yes {n : Nat} (h : ¬ n ≤ 1048576) : decide ((1048576 : Int) < (n : Int)) = true := decide_eq_true (by omega)
set_option maxRecDepth 100000
set_option maxHeartbeats 9600000 in
theorem walk (W : World) (a0 : Value) (w0 : Is_B a0 W) (a1 : Value) (w1 : Is_B a1 W) : Calls Try.prog 10 #[a0, a1] W fun e w' => e = .returned (.bool true) ∧ Below W.heap.size W w' := by
  obtain ⟨a, n, c, rfl, hn, hA⟩ := w0
  obtain ⟨a', n', c', rfl, hn', hM⟩ := w1
  have HA := Lib.hid hA
  have HM := Lib.hid hM
  clear hA hM
  by_cases h1 : n ≤ 1048576
  case neg =>
    have g1 := long_yes h1
    go_enter Try.func10, Try.ntmps10
    go_wp2_with (go_at_call 25; go_in)
    go_ret
    exact ⟨rfl, Below.refl _ _⟩
  by_cases h2 : n' ≤ 1048576
  case neg =>
    have g1 := long_no h1
    have g2 := long_yes h2
    go_enter Try.func10, Try.ntmps10
    go_wp2_with (go_at_call 25; go_in)
    go_ret
    exact ⟨rfl, Below.refl _ _⟩
  have g1 := long_no h1
  have g2 := long_no h2
  go_enter Try.func10, Try.ntmps10
  go_wp2_with (go_at_call 25; go_in)
  refine (b10At_of W.heap.size a n c 0 129 (by omega) (by omega) (by omega) h1 _ HA.out).mono ?_
  rintro e wx ⟨v, rfl, ⟨v0, v1⟩, rfl⟩
  clear g1 g2
  obtain ⟨i, rfl⟩ : ∃ i : Nat, v = i := ⟨v.toNat, by omega⟩
  have hi : i < 129 := by omega
  have qi := Lib.hid (q16f hi)
  have zi := Lib.hid (q16z hi)
  have wi : wrap64 ((i : Int) - 64) = (i : Int) - 64 := by unfold wrap64; omega
  have Wi := Lib.hid wi
  have Hi := Lib.hid hi
  clear hi v0 v1 wi
  go_wp2_with (refine wpList_fop rfl rfl rfl rfl rfl ?_; intro X n1 hX; rw [Wi.out] at hX; replace hX := Lib.hid hX)
  refine (b10At_of W.heap.size a n c 1 129 (by omega) (by omega) (by omega) h1 (W.drewN n1) (show Bytes W.heap.size a n (W.drewN n1) from HA.out)).mono ?_
  rintro e wx ⟨v, rfl, ⟨v0, v1⟩, rfl⟩
  obtain ⟨j, rfl⟩ : ∃ j : Nat, v = j := ⟨v.toNat, by omega⟩
  have hj : j < 129 := by omega
  have qj := Lib.hid (q16f hj)
  have zj := Lib.hid (q16z hj)
  have wj : wrap64 ((j : Int) - 64) = (j : Int) - 64 := by unfold wrap64; omega
  have Wj := Lib.hid wj
  have Hj := Lib.hid hj
  clear hj v0 v1 wj
  go_wp2_with (refine wpList_fop rfl rfl rfl rfl rfl ?_; intro Y n2 hY; rw [Wj.out] at hY; replace hY := Lib.hid hY)
  have eX := hX.out.num qi.out
  have eY := hY.out.num qj.out
  have zX := zi.out
  have zY := zj.out
  have hNX : Hid (nanB .f32 X = false) := Lib.hid (by rw [eX]; exact qi.out)
  have hNY : Hid (nanB .f32 Y = false) := Lib.hid (by rw [eY]; exact qj.out)
  rw [← eX] at zX
  rw [← eY] at zY
  have hpt : ¬ (i = 64 ∧ j = 64) → ptB Y X = true := by
    intro h
    have h := points Hi.out Hj.out h
    rw [q16_eq, q16_eq, ← eX, ← eY] at h
    exact h
  have hzz : i = 64 ∧ j = 64 → angF Y X = 0 := by
    rintro ⟨rfl, rfl⟩
    rw [eX, eY, ← q16_eq]
    decide +kernel
  replace zX := Lib.hid zX
  replace zY := Lib.hid zY
  replace hpt := Lib.hid hpt
  replace hzz := Lib.hid hzz
  clear hX hY qi qj zi zj eX eY
  refine (impl_angle Y X _).mono ?_
  rintro e wx ⟨A, n3, rfl, hA, rfl⟩
  replace hA := Lib.hid hA
  go_wp2_with fail
  refine (impl_angle (Op.negFloat .f32 Y) X _).mono ?_
  rintro e wx ⟨B, n4, rfl, hB, rfl⟩
  replace hB := Lib.hid hB
  by_cases hz : i = 64 ∧ j = 64
  · have zx := zX.out
    have zy := zY.out
    rw [decide_eq_true hz.1] at zx
    rw [decide_eq_true hz.2] at zy
    have ha : A = 0 := (hzz.out hz).symm ▸ hA.out.num (by rw [hzz.out hz]; decide)
    subst ha
    have oo : (FloatKind.f32.format.order 0 0 == some .eq) = true := by decide +kernel
    clear hpt hzz hA hB zX zY hz
    go_wp2_with fail
    go_ret
    exact ⟨rfl, below_drewN (Below.refl _ _) _⟩
  obtain ⟨A', B', R, Q, SA, SC, S, C, gs, gc, ⟨e1, e2, e3, e4, e5, e6, e7, e8, e9, e10⟩, ⟨k1, k2, k3, k4, k5, k6, k7, k8, k9, k10⟩, o1, o2, o3, o4, o5⟩ := pt_open (hpt.out hz)
  obtain rfl : A = A' := by have h := hA.out; rw [e1] at h; exact h.num k1
  obtain rfl : B = B' := by have h := hB.out; rw [e2] at h; exact h.num k2
  clear hpt hzz hA hB e1 e2
  have hR : Hid (nanB .f32 R = false) := Lib.hid k3
  have hQ : Hid (nanB .f32 Q = false) := Lib.hid k4
  have hSA : Hid (nanB .f32 SA = false) := Lib.hid k5
  have hSC : Hid (nanB .f32 SC = false) := Lib.hid k6
  have hS : Hid (nanB .f64 S = false) := Lib.hid k7
  have hC : Hid (nanB .f64 C = false) := Lib.hid k8
  have hgs : Hid (nanB .f64 gs = false) := Lib.hid k9
  have hgc : Hid (nanB .f64 gc = false) := Lib.hid k10
  replace e3 := Lib.hid e3
  replace e4 := Lib.hid e4
  replace e5 := Lib.hid e5
  replace e6 := Lib.hid e6
  replace e7 := Lib.hid e7
  replace e8 := Lib.hid e8
  replace e9 := Lib.hid e9
  replace e10 := Lib.hid e10
  replace o1 := Lib.hid o1
  replace o2 := Lib.hid o2
  replace o3 := Lib.hid o3
  replace o4 := Lib.hid o4
  replace o5 := Lib.hid o5
  clear k1 k2 k3 k4 k5 k6 k7 k8 k9 k10
  have zxy : ((FloatKind.f32.format.order X 0 == some .eq) && (FloatKind.f32.format.order Y 0 == some .eq)) = false := by
    rw [zX.out, zY.out]
    by_cases g : i = 64
    · rw [decide_eq_false (fun q => hz ⟨g, q⟩), Bool.and_false]
    · rw [decide_eq_false g, Bool.false_and]
  clear hz
  go_wp2_with fail
  all_goals first
    | (exfalso; have g := zxy; rw [(by assumption : FloatKind.f32.format.order X 0 = some .eq), (by assumption : (FloatKind.f32.format.order Y 0 == some .eq) = true)] at g; exact absurd g (by decide))
    | skip
  all_goals clear zxy
  all_goals
    refine (impl_long X Y 0 _).mono ?_
    rintro e w1 ⟨R0, rfl, h, b1⟩
    obtain rfl : R = R0 := by
      have h : Same .f32 R0 (pR Y X) := h
      rw [e3.out] at h
      exact (h.num hR.out).symm
    have B1 : Hid (Below W.heap.size W w1) := Lib.hid (belowNext (below_drewN (Below.refl _ _) _) b1)
    have HMd : Hid (∀ k, Bytes (w1.drewN k).heap.size a' n' (w1.drewN k)) := Lib.hid (fun k => Bytes.step (below_drewN B1.out k) HM.out)
    clear h b1 e3
    go_wp2_with fail
    refine (impl_sine A _).mono ?_
    rintro e wx ⟨SA0, m1, rfl, h, rfl⟩
    obtain rfl : SA = SA0 := by rw [e5.out] at h; exact (h.num hSA.out).symm
    clear h e5
    go_wp2_with (first | (refine wpList_wide some32 Try.underlying28 rfl rfl rfl ?_; intro _ _ _) | (refine wpList_fop (k := .f64) rfl rfl rfl rfl rfl ?_; intro S0 ms hs0) | (refine wpList_fop (k := .f32) rfl rfl rfl rfl rfl ?_; intro Q0 mq hq0))
    obtain rfl : S = S0 := by have h := hs0.step (by assumption) (by assumption); rw [e7.out] at h; exact (h.num hS.out).symm
    obtain rfl : Q = Q0 := by have h : Same .f32 Q0 (ad A 1048576000) := hq0; rw [e4.out] at h; exact (h.num hQ.out).symm
    clear hs0 hq0 e7 e4
    refine (impl_sine Q _).mono ?_
    rintro e wx ⟨SC0, m2, rfl, h, rfl⟩
    obtain rfl : SC = SC0 := by rw [e6.out] at h; exact (h.num hSC.out).symm
    clear h e6
    have p1 := o1.out
    have p2 := o2.out
    have p3 := o3.out
    have p4 := o4.out
    go_wp2_with (first | (refine wpList_wide some32 Try.underlying28 rfl rfl rfl ?_; intro _ _ _) | (refine wpList_fop (k := .f64) rfl rfl rfl rfl rfl ?_; intro C0 mc hc0))
    obtain rfl : C = C0 := by have h := hc0.step (by assumption) (by assumption); rw [e8.out] at h; exact (h.num hC.out).symm
    clear hc0 e8
    have wY : ∀ v : World, cval .f32 Y .f64 v = cv Y := fun v => (cval_wide v (Same.refl _ _)).num (by rw [nanB_cv]; exact hNY.out)
    have wX : ∀ v : World, cval .f32 X .f64 v = cv X := fun v => (cval_wide v (Same.refl _ _)).num (by rw [nanB_cv]; exact hNX.out)
    rw [wY]
    refine (gap_of _ _ _).mono ?_
    rintro e wx ⟨gs0, m3, rfl, h, rfl⟩
    obtain rfl : gs = gs0 := by rw [e9.out] at h; exact (h.num hgs.out).symm
    have WX := Lib.hid wX
    clear h e9 wX wY
    go_wp2_with fail
    rw [WX.out]
    refine (gap_of _ _ _).mono ?_
    rintro e wx ⟨gc0, m4, rfl, h, rfl⟩
    obtain rfl : gc = gc0 := by rw [e10.out] at h; exact (h.num hgc.out).symm
    clear h e10
    have p5 := o5.out
    cases gy : (FloatKind.f32.format.order Y 0 == some .eq) with
    | true =>
      have ny : (FloatKind.f32.format.order Y 0 != some .eq) = false := by unfold bne; rw [gy]; rfl
      have gE : FloatKind.f32.format.order Y 0 = some .eq := by simpa using gy
      clear p5 gy
      go_wp2_with fail
      refine (any_number a' n' c' hn' _ (HMd.out _)).mono ?_
      rintro e w2 ⟨z, rfl, hz, b2⟩
      have B2 : Hid (Below W.heap.size W w2) := Lib.hid (belowNext (below_drewN B1.out _) b2)
      have Hz := Lib.hid hz
      have sf := flush_sub z
      have ss := flush_same hz
      clear hz b2
      cases sz : subB z
      all_goals
        rw [sz] at ss
        replace ss : sameB z (flushF z) = _ := ss
        go_wp2_with (first | (go_at_call 45; refine (impl_FlushNumber z Hz.out _).mono ?_; rintro e w' ⟨rfl, n5, rfl⟩) | (go_at_call 46; refine (impl_IsSubnormal _ _).mono ?_; rintro e w' ⟨rfl, n6, rfl⟩) | (go_at_call 27; refine (spec_same_gen _ _ Hz.out (flush_lt Hz.out) _).mono ?_; rintro e w' ⟨rfl, rfl⟩))
        go_ret
        exact ⟨rfl, below_drewN B2.out _⟩
    | false =>
      rw [gy, Bool.false_or] at p5
      have ny : (FloatKind.f32.format.order Y 0 != some .eq) = true := by unfold bne; rw [gy]; rfl
      have na : (FloatKind.f32.format.order A (Op.negFloat .f32 B) != some .eq) = false := by unfold bne; rw [p5]; rfl
      have gE : FloatKind.f32.format.order A (Op.negFloat .f32 B) = some .eq := by simpa using p5
      have gN : ¬ FloatKind.f32.format.order Y 0 = some .eq := by intro g; rw [g] at gy; cases gy
      clear p5 gy
      go_wp2_with fail
      refine (any_number a' n' c' hn' _ (HMd.out _)).mono ?_
      rintro e w2 ⟨z, rfl, hz, b2⟩
      have B2 : Hid (Below W.heap.size W w2) := Lib.hid (belowNext (below_drewN B1.out _) b2)
      have Hz := Lib.hid hz
      have sf := flush_sub z
      have ss := flush_same hz
      clear hz b2
      cases sz : subB z
      all_goals
        rw [sz] at ss
        replace ss : sameB z (flushF z) = _ := ss
        go_wp2_with (first | (go_at_call 45; refine (impl_FlushNumber z Hz.out _).mono ?_; rintro e w' ⟨rfl, n5, rfl⟩) | (go_at_call 46; refine (impl_IsSubnormal _ _).mono ?_; rintro e w' ⟨rfl, n6, rfl⟩) | (go_at_call 27; refine (spec_same_gen _ _ Hz.out (flush_lt Hz.out) _).mono ?_; rintro e w' ⟨rfl, rfl⟩))
        go_ret
        exact ⟨rfl, below_drewN B2.out _⟩

theorem own : ownKnob Try.prog.godebug = none := by kernel_rfl
theorem laidOut : laidOutB Try.prog = true := by kernel_rfl
set_option maxRecDepth 100000 in
theorem lifted (os : Os) (started : os.Started) (H : Type) (enc : TypeId × Value → H) :
    ReturnsInHanded {} Try.checked os 10 .any (Rows.fnAnglesSpec.pre6 enc Try.prog Try.f10 Rows.fnAnglesRow.domain false) (Rows.fnAnglesSpec.post enc Try.prog Try.f10 false true false false) := by
  refine returnsInHanded_of_change (C := Try.checked) own started (by kernel_rfl) Try.func10
    (ChangeSpec.witness6 (enc := enc) (C := Try.checked) false ⟨#[], #[.slice none 0 0, .slice none 0 0], []⟩ 8 (by kernel_rfl) (by kernel_rfl) (by kernel_rfl) (by kernel_rfl)) ?_
  intro W base args ds gs before hval0 hW hcnd _
  have hval : ∀ (j : Nat) t v, Try.f10.params[j]? = some t → args[j]? = some v → Value.okWide Try.prog W .any base t v := hval0
  have hW' := hW
  obtain ⟨p, q, hA0, hV, rfl, hfz, hnd⟩ := hW
  have hA : DataW.TrodAll enc Try.prog W 0 (fun _ => true) true Try.f10.params.toList args.toList ds p := hA0
  rw [Try.params10] at hA hval
  obtain ⟨v0, vs0, d0, ds0, p0, q0, hargs, rfl, rfl, h0, r0⟩ := trodAll_cons hA
  obtain ⟨v1, vs1, d1, ds1, p1, q1, rfl, rfl, rfl, h1, r1⟩ := trodAll_cons r0
  obtain ⟨rfl, rfl, rfl⟩ := trodAll_nil r1
  obtain rfl : args = #[v0, v1] := by cases args; simp_all
  obtain ⟨rfl, rfl⟩ := trodVars_none hV
  have k0 := h0
  have lt0 : ∀ x ∈ p0, x.block < W.heap.size := by obtain ⟨m, hm⟩ := k0; exact DataW.trod_lt m _ _ _ hm
  obtain ⟨a0, rfl, w0⟩ := opened_B (hval 0 34 v0 rfl rfl) h0
  have k1 := h1
  have lt1 : ∀ x ∈ p1, x.block < W.heap.size := by obtain ⟨m, hm⟩ := k1; exact DataW.trod_lt m _ _ _ hm
  obtain ⟨a1, rfl, w1⟩ := opened_B (hval 1 34 v1 rfl rfl) h1
  clear hA0 hval0
  refine (walk W a0 w0 a1 w1).mono fun e W' ⟨he, bel⟩ => ?_
  subst he
  exact ⟨_, rfl, _, _, _, [], _, [], hW', trodAll_mk1 (shut_bool Try.underlying4 _), (trodAll_cons_mk (Below.trod laidOut (by kernel_rfl) (of_decide_eq_true (by kernel_rfl)) k0 bel lt0) (trodAll_cons_mk (Below.trod laidOut (by kernel_rfl) (of_decide_eq_true (by kernel_rfl)) k1 bel lt1) trodAll_mk0)), rfl, bel.frame _, fun h => by cases h⟩

theorem over : Rows.fnAnglesRow.holds Try.pinned (OpenSpec.ofChange Rows.fnAnglesSpec) :=
  OpenClaim.holds_of_wide 10 Try.f10 rfl rfl rfl rfl rfl rfl rfl ⟨rfl, rfl, rfl, rfl, rfl⟩ rfl rfl rfl rfl rfl (by kernel_rfl) Try.func10 (by kernel_rfl)
    (of_decide_eq_true (by kernel_rfl)) (by unfold Func.isWrapper; first | (rw [if_pos (by decide +kernel)]; kernel_rfl) | (rw [if_neg (by decide +kernel)]; exact ⟨rfl, rfl⟩))
    (fun os started H enc _ => lifted os started H enc)

/-- The given statement. -/
theorem proved : Rows.FnAnglesSaid := over
end Go.Proofs.Ytcmmafkmfahijaa.fnAngles
