/- The given statement FnNarrowed: the program's function and the reference's agree, for every input. Conditions: none beyond the statement's own. -/
import Derived.Test.YtcmmafkmfahijaaExact
import Derived.Test.YtcmmafkmfahijaaOpen
import Derived.Test.YtcmmafkmfahijaaRows
import Derived.ProofKit
import Derived.OpenShut
import Derived.ShutString
import Derived.ChangeOld
import Derived.Below
import Derived.LoopTactic
import Derived.Deep.RegionHeld3
import Derived.Deep.DeepCutAuto
namespace Go.Proofs.Ytcmmafkmfahijaa.fnNarrowed
open Go.ChangeShapes Go.WideShapes Go.ChangeAt Go.RowKit
open Go.ChangeMaps (open_string shut_string)
set_option linter.unusedVariables false
open Ieee (single double)
theorem long_no {n : Nat} (h : n ≤ 1048576) : decide ((1048576 : Int) < (n : Int)) = false := decide_eq_false (by omega)
theorem long_yes {n : Nat} (h : ¬ n ≤ 1048576) : decide ((1048576 : Int) < (n : Int)) = true := decide_eq_true (by omega)
theorem narrow_is (u c : Nat) (h : floatToFloatBits .f64 u .f32 = some c) (w : World) : Calls Try.prog 28 #[.float .f64 u] w fun e w' => e = .returned (.float .f32 c) ∧ ∃ n, w' = w.drewN n := by
  go_enter Try.func28, Try.ntmps28
  go_wp2_with (first | (refine wpList_narrow some64 Try.underlying23 rfl rfl rfl ?_; intro _ _ _))
  go_ret
  rename_i r n hr
  exact ⟨ret_float (narrow_some h hr), _, rfl⟩
theorem narrow_no (u : Nat) (h : nanB .f64 u = true) (w : World) : Calls Try.prog 28 #[.float .f64 u] w fun e w' => ∃ r n, e = .returned (.float .f32 r) ∧ nanB .f32 r = true ∧ w' = w.drewN n := by
  go_enter Try.func28, Try.ntmps28
  go_wp2_with (first | (refine wpList_narrow some64 Try.underlying23 rfl rfl rfl ?_; intro _ _ _))
  go_ret
  rename_i r n hr
  exact ⟨_, _, rfl, narrow_nan h hr, rfl⟩
theorem bits_no (r : Nat) (h : nanB .f32 r = true) (w : World) : Calls Try.prog 74 #[.float .f32 r] w fun e w' => e = .returned (.int .i64 2143289344) ∧ w = w' := by
  have so : FloatKind.f32.format.order r r = none := order_nan_left _ h
  clear h
  go_enter Try.func74, Try.ntmps74
  go_wp2_with fail
  go_ret
  exact ⟨rfl, rfl⟩
theorem same_no (r x : Nat) (h : nanB .f32 r = true) (hx : nanB .f32 x = true) (w : World) : Calls Try.prog 27 #[.float .f32 r, .float .f32 x] w fun e w' => e = .returned (.bool true) ∧ w = w' := by
  go_enter Try.func27, Try.ntmps27
  go_wp2_with (first | (go_at_call 71; go_in) | (go_at_call 74; refine (bits_no _ (by assumption) _).mono ?_; rintro e w' ⟨rfl, rfl⟩))
  go_ret
  exact ⟨rfl, rfl⟩
theorem same_self (x : Nat) (hx : x < 4294967296) (w : World) : Calls Try.prog 27 #[.float .f32 x, .float .f32 x] w fun e w' => e = .returned (.bool true) ∧ w = w' := by
  have e : sameB x x = true := by unfold sameB; simp
  go_enter Try.func27, Try.ntmps27
  go_wp2_with (first | (go_at_call 71; refine (spec_l01Same x x hx hx _).mono ?_; rw [e]; rintro e w' ⟨rfl, rfl⟩))
  go_ret
  exact ⟨rfl, rfl⟩
theorem next_any (x : Nat) (hx : x < 4294967296) (w : World) : Calls Try.prog 29 #[.float .f32 x] w fun e w' => ∃ r n, e = .returned (.float .f32 r) ∧ Same .f32 r (nextF x) ∧ w' = w.drewN n := by
  go_enter Try.func29, Try.ntmps29
  go_wp2_with (first | (go_at_call 72; refine (spec_l01Next x hx _).mono ?_; rintro e w' ⟨r, n, rfl, hr, _, rfl⟩))
  go_ret
  exact ⟨_, _, rfl, hr, rfl⟩
theorem next_num (x : Nat) (hx : x < 4294967296) (h : nanB .f32 (nextF x) = false) (w : World) : Calls Try.prog 29 #[.float .f32 x] w fun e w' => e = .returned (.float .f32 (nextF x)) ∧ ∃ n, w' = w.drewN n := by
  refine (next_any x hx w).mono ?_
  rintro e w' ⟨r, n, rfl, hr, rfl⟩
  rcases hr with rfl | ⟨_, h2⟩
  · exact ⟨rfl, n, rfl⟩
  · rw [h] at h2; cases h2
theorem fin_is (x : Nat) (w : World) : Calls Try.prog 30 #[.float .f32 x] w fun e w' => e = .returned (.bool (finB x)) ∧ ∃ n, w' = w.drewN n := by
  go_enter Try.func30, Try.ntmps30
  go_wp2_with (first | (go_at_call 73; refine (spec_l01Finite _ _).mono ?_; rintro e w' ⟨rfl, n, rfl⟩))
  go_ret
  exact ⟨rfl, _, rfl⟩
theorem bits_is (x : Nat) (hx : x < 4294967296) (hn : nanB .f32 x = false) (w : World) : Calls Try.prog 31 #[.float .f32 x] w fun e w' => e = .returned (.int .i64 (x : Int)) ∧ w = w' := by
  have hb : bitsOf x = x := by unfold bitsOf; rw [hn]; rfl
  go_enter Try.func31, Try.ntmps31
  go_wp2_with (first | (go_at_call 74; refine (spec_l01Bits x hx _).mono ?_; rw [hb]; rintro e w' ⟨rfl, rfl⟩))
  go_ret
  exact ⟨rfl, rfl⟩
theorem quiet64 {op : BinOp} {x y r : Nat} (h : floatBits op .f64 x y = some r) : (∀ w, fval op .f64 x y w = r) ∧ fcnt op .f64 x y = 0 := ⟨fun w => by unfold fval; rw [h]; rfl, by unfold fcnt; rw [h]; rfl⟩
set_option maxRecDepth 100000
set_option maxHeartbeats 9600000 in
theorem walk (W : World) (a0 : Value) (w0 : Is_B a0 W) (a1 : Value) (w1 : Is_B a1 W) : Calls Try.prog 7 #[a0, a1] W fun e w' => e = .returned (.bool true) ∧ Below W.heap.size W w' := by
  obtain ⟨a, n, c, rfl, hn, hA⟩ := w0
  obtain ⟨a', n', c', rfl, hn', hM⟩ := w1
  have HA := Lib.hid hA
  clear hA hM
  by_cases h1 : n ≤ 1048576
  case neg =>
    have g1 := long_yes h1
    go_enter Try.func7, Try.ntmps7
    go_wp2_with (go_at_call 25; go_in)
    go_ret
    exact ⟨rfl, Below.refl _ _⟩
  by_cases h2 : n' ≤ 1048576
  case neg =>
    have g1 := long_no h1
    have g2 := long_yes h2
    go_enter Try.func7, Try.ntmps7
    go_wp2_with (go_at_call 25; go_in)
    go_ret
    exact ⟨rfl, Below.refl _ _⟩
  have g1 := long_no h1
  have g2 := long_no h2
  go_enter Try.func7, Try.ntmps7
  go_wp2_with (go_at_call 25; go_in)
  refine (any_number a n c hn _ HA.out).mono ?_
  rintro e w1 ⟨x, rfl, hx, b1⟩
  have B1 := Lib.hid b1
  clear b1 g1 g2
  cases nx : nanB .f32 x with
  | true =>
    have hf : finB x = false := by unfold finB; rw [nan32, decide_eq_true_eq] at nx; exact decide_eq_false (by unfold rungAt; rw [single_sign, single_inf]; omega)
    have NC := Lib.hid nx
    go_wp2_with (first | (refine wpList_wide some32 Try.underlying28 rfl rfl rfl ?_; intro r2 _ hr2; have hn2 : nanB .f64 r2 = true := by rw [hr2.nan_iff, nanB_cv]; exact NC.out) | (go_at_call 28; refine (narrow_no _ (by assumption) _).mono ?_; rintro e w' ⟨r, nn, rfl, hr, rfl⟩) | (go_at_call 27; refine (same_no _ _ (by assumption) NC.out _).mono ?_; rintro e w' ⟨rfl, rfl⟩) | (go_at_call 29; refine (next_any _ hx _).mono ?_; rintro e w' ⟨r3, nn, rfl, _, rfl⟩) | (go_at_call 30; refine (fin_is _ _).mono ?_; rw [hf]; rintro e w' ⟨rfl, nn, rfl⟩))
    go_ret
    refine ⟨rfl, ?_⟩
    repeat (first | exact B1.out | refine below_drewN ?_ _)
  | false =>
    have k1 := cval_num nx
    have k2 := ccnt_num nx
    have CN := Lib.hid (same_self x hx)
    cases hf : finB x with
    | false =>
      have hx2 : x = 2139095040 ∨ x = 4286578688 := by
        unfold finB rungAt at hf
        rw [single_sign, single_inf, decide_eq_false_iff_not] at hf
        rw [nan32, decide_eq_false_iff_not] at nx
        omega
      have hw : floatToFloatBits .f64 (cv x) .f32 = some x := by rcases hx2 with rfl | rfl <;> decide +kernel
      clear hx2 nx
      generalize cv x = cx at *
      go_wp2_with (first | (go_at_call 28; refine (narrow_is _ _ hw _).mono ?_; rintro e w' ⟨rfl, nn, rfl⟩) | (go_at_call 27; refine (CN.out _).mono ?_; rintro e w' ⟨rfl, rfl⟩) | (go_at_call 29; refine (next_any _ hx _).mono ?_; rintro e w' ⟨r3, nn, rfl, _, rfl⟩) | (go_at_call 30; refine (fin_is _ _).mono ?_; rw [hf]; rintro e w' ⟨rfl, nn, rfl⟩))
      go_ret
      refine ⟨rfl, ?_⟩
      repeat (first | exact B1.out | refine below_drewN ?_ _)
    | true =>
      have hr : rungAt single x < 2139095040 := of_decide_eq_true hf
      have hw := narrow_wide hx hr
      have hni : x ≠ 2139095040 := fun e => by subst e; revert hf; decide +kernel
      obtain ⟨ny, _, hy⟩ := nextF_key hx nx hni
      have CY := Lib.hid (next_num x hx ny)
      cases hfy : finB (nextF x) with
      | false =>
        have HFY := Lib.hid hfy
        clear hfy hni hr ny
        generalize cv x = cx at *
        generalize nextF x = y at *
        go_wp2_with (first | (go_at_call 28; refine (narrow_is _ _ hw _).mono ?_; rintro e w' ⟨rfl, nn, rfl⟩) | (go_at_call 27; refine (CN.out _).mono ?_; rintro e w' ⟨rfl, rfl⟩) | (go_at_call 29; refine (CY.out _).mono ?_; rintro e w' ⟨rfl, nn, rfl⟩) | (go_at_call 30; ((with_reducible refine (fin_is x _).mono ?_); rw [hf]; rintro e w' ⟨rfl, nn, rfl⟩)) | (go_at_call 30; refine (fin_is _ _).mono ?_; rw [HFY.out]; rintro e w' ⟨rfl, nn, rfl⟩))
        go_ret
        refine ⟨rfl, ?_⟩
        repeat (first | exact B1.out | refine below_drewN ?_ _)
      | true =>
        have hry : rungAt single (nextF x) < 2139095040 := of_decide_eq_true hfy
        obtain ⟨s1, m1, s2, m2, s3, m3, r1, r2, r3, e1, e2, e3, e4, e5, e6, c1, c2, c3, n1, n2, n3, z1, z2, z3⟩ := between hx hr hry
        have k3 := cval_num ny
        have k4 := ccnt_num ny
        obtain ⟨v1, f1⟩ := quiet64 e1
        obtain ⟨v2, f2⟩ := quiet64 e2
        obtain ⟨v3, f3⟩ := quiet64 e3
        obtain ⟨v4, f4⟩ := quiet64 e4
        obtain ⟨v5, f5⟩ := quiet64 e5
        obtain ⟨v6, f6⟩ := quiet64 e6
        have o2 : (FloatKind.f32.format.order r2 x == some .eq) = true := by rw [ordEq n2 nx]; exact decide_eq_true z2
        have o3 : (FloatKind.f32.format.order r3 (nextF x) == some .eq) = true := by rw [ordEq n3 ny]; exact decide_eq_true z3
        have N0 := Lib.hid (narrow_is _ _ hw)
        have N1 := Lib.hid (narrow_is _ _ c1)
        have N2 := Lib.hid (narrow_is _ _ c2)
        have N3 := Lib.hid (narrow_is _ _ c3)
        have CB := Lib.hid (bits_is x hx nx)
        have HFY := Lib.hid hfy
        have par : (((x : Int) % 2) == 1) = decide (x % 2 = 1) := by
          by_cases h : x % 2 = 1
          · rw [decide_eq_true h, beq_iff_eq]; omega
          · rw [decide_eq_false h, beq_eq_false_iff_ne]; omega
        by_cases hp : x % 2 = 1
        · have o1 : (FloatKind.f32.format.order r1 (nextF x) == some .eq) = true := by rw [if_pos hp] at z1; rw [ordEq n1 ny]; exact decide_eq_true z1
          rw [decide_eq_true hp] at par
          clear hfy hni hr ny hry z1 z2 z3 n1 n2 n3 e1 e2 e3 e4 e5 e6 c1 c2 c3 hw hp nx
          generalize cv (nextF x) = cy at *
          generalize cv x = cx at *
          generalize nextF x = y at *
          go_wp2_with (first | (go_at_call 28; ((with_reducible refine (N0.out _).mono ?_); rintro e w' ⟨rfl, nn, rfl⟩)) | (go_at_call 28; ((with_reducible refine (N1.out _).mono ?_); rintro e w' ⟨rfl, nn, rfl⟩)) | (go_at_call 28; ((with_reducible refine (N2.out _).mono ?_); rintro e w' ⟨rfl, nn, rfl⟩)) | (go_at_call 28; ((with_reducible refine (N3.out _).mono ?_); rintro e w' ⟨rfl, nn, rfl⟩)) | (go_at_call 31; refine (CB.out _).mono ?_; rintro e w' ⟨rfl, rfl⟩) | (go_at_call 27; refine (CN.out _).mono ?_; rintro e w' ⟨rfl, rfl⟩) | (go_at_call 29; refine (CY.out _).mono ?_; rintro e w' ⟨rfl, nn, rfl⟩) | (go_at_call 30; ((with_reducible refine (fin_is x _).mono ?_); rw [hf]; rintro e w' ⟨rfl, nn, rfl⟩)) | (go_at_call 30; refine (fin_is _ _).mono ?_; rw [HFY.out]; rintro e w' ⟨rfl, nn, rfl⟩))
          go_ret
          refine ⟨rfl, ?_⟩
          repeat (first | exact B1.out | refine below_drewN ?_ _)
        · have o1 : (FloatKind.f32.format.order r1 x == some .eq) = true := by rw [if_neg hp] at z1; rw [ordEq n1 nx]; exact decide_eq_true z1
          rw [decide_eq_false hp] at par
          clear hfy hni hr ny hry z1 z2 z3 n1 n2 n3 e1 e2 e3 e4 e5 e6 c1 c2 c3 hw hp nx
          generalize cv (nextF x) = cy at *
          generalize cv x = cx at *
          generalize nextF x = y at *
          go_wp2_with (first | (go_at_call 28; ((with_reducible refine (N0.out _).mono ?_); rintro e w' ⟨rfl, nn, rfl⟩)) | (go_at_call 28; ((with_reducible refine (N1.out _).mono ?_); rintro e w' ⟨rfl, nn, rfl⟩)) | (go_at_call 28; ((with_reducible refine (N2.out _).mono ?_); rintro e w' ⟨rfl, nn, rfl⟩)) | (go_at_call 28; ((with_reducible refine (N3.out _).mono ?_); rintro e w' ⟨rfl, nn, rfl⟩)) | (go_at_call 31; refine (CB.out _).mono ?_; rintro e w' ⟨rfl, rfl⟩) | (go_at_call 27; refine (CN.out _).mono ?_; rintro e w' ⟨rfl, rfl⟩) | (go_at_call 29; refine (CY.out _).mono ?_; rintro e w' ⟨rfl, nn, rfl⟩) | (go_at_call 30; ((with_reducible refine (fin_is x _).mono ?_); rw [hf]; rintro e w' ⟨rfl, nn, rfl⟩)) | (go_at_call 30; refine (fin_is _ _).mono ?_; rw [HFY.out]; rintro e w' ⟨rfl, nn, rfl⟩))
          go_ret
          refine ⟨rfl, ?_⟩
          repeat (first | exact B1.out | refine below_drewN ?_ _)

theorem own : ownKnob Try.prog.godebug = none := by kernel_rfl
theorem laidOut : laidOutB Try.prog = true := by kernel_rfl
set_option maxRecDepth 100000 in
theorem lifted (os : Os) (started : os.Started) (H : Type) (enc : TypeId × Value → H) :
    ReturnsInHanded {} Try.checked os 7 .any (Rows.fnNarrowedSpec.pre6 enc Try.prog Try.f7 Rows.fnNarrowedRow.domain false) (Rows.fnNarrowedSpec.post enc Try.prog Try.f7 false true false false) := by
  refine returnsInHanded_of_change (C := Try.checked) own started (by kernel_rfl) Try.func7
    (ChangeSpec.witness6 (enc := enc) (C := Try.checked) false ⟨#[], #[.slice none 0 0, .slice none 0 0], []⟩ 8 (by kernel_rfl) (by kernel_rfl) (by kernel_rfl) (by kernel_rfl)) ?_
  intro W base args ds gs before hval0 hW hcnd _
  have hval : ∀ (j : Nat) t v, Try.f7.params[j]? = some t → args[j]? = some v → Value.okWide Try.prog W .any base t v := hval0
  have hW' := hW
  obtain ⟨p, q, hA0, hV, rfl, hfz, hnd⟩ := hW
  have hA : DataW.TrodAll enc Try.prog W 0 (fun _ => true) true Try.f7.params.toList args.toList ds p := hA0
  rw [Try.params7] at hA hval
  obtain ⟨v0, vs0, d0, ds0, p0, q0, hargs, rfl, rfl, h0, r0⟩ := trodAll_cons hA
  obtain ⟨v1, vs1, d1, ds1, p1, q1, rfl, rfl, rfl, h1, r1⟩ := trodAll_cons r0
  obtain ⟨rfl, rfl, rfl⟩ := trodAll_nil r1
  obtain rfl : args = #[v0, v1] := by cases args; simp_all
  obtain ⟨rfl, rfl⟩ := trodVars_none hV
  have k0 := h0
  have lt0 : ∀ x ∈ p0, x.block < W.heap.size := by obtain ⟨m, hm⟩ := k0; exact DataW.trod_lt m _ _ _ hm
  obtain ⟨a0, rfl, w0⟩ := opened_B (hval 0 34 v0 rfl rfl) h0
  have k1 := h1
  have lt1 : ∀ x ∈ p1, x.block < W.heap.size := by obtain ⟨m, hm⟩ := k1; exact DataW.trod_lt m _ _ _ hm
  obtain ⟨a1, rfl, w1⟩ := opened_B (hval 1 34 v1 rfl rfl) h1
  clear hA0 hval0
  refine (walk W a0 w0 a1 w1).mono fun e W' ⟨he, bel⟩ => ?_
  subst he
  exact ⟨_, rfl, _, _, _, [], _, [], hW', trodAll_mk1 (shut_bool Try.underlying4 _), (trodAll_cons_mk (Below.trod laidOut (by kernel_rfl) (of_decide_eq_true (by kernel_rfl)) k0 bel lt0) (trodAll_cons_mk (Below.trod laidOut (by kernel_rfl) (of_decide_eq_true (by kernel_rfl)) k1 bel lt1) trodAll_mk0)), rfl, bel.frame _, fun h => by cases h⟩

theorem over : Rows.fnNarrowedRow.holds Try.pinned (OpenSpec.ofChange Rows.fnNarrowedSpec) :=
  OpenClaim.holds_of_wide 7 Try.f7 rfl rfl rfl rfl rfl rfl rfl ⟨rfl, rfl, rfl, rfl, rfl⟩ rfl rfl rfl rfl rfl (by kernel_rfl) Try.func7 (by kernel_rfl)
    (of_decide_eq_true (by kernel_rfl)) (by unfold Func.isWrapper; first | (rw [if_pos (by decide +kernel)]; kernel_rfl) | (rw [if_neg (by decide +kernel)]; exact ⟨rfl, rfl⟩))
    (fun os started H enc _ => lifted os started H enc)

/-- The given statement. -/
theorem proved : Rows.FnNarrowedSaid := over
end Go.Proofs.Ytcmmafkmfahijaa.fnNarrowed
