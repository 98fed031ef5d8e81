/- The given statement FnBits: the program's function and the reference's agree, for every input. Conditions: none beyond the statement's own. -/
import Derived.Test.YtcmmafkmfahijaaNumb
import Derived.Test.YtcmmafkmfahijaaOpen
import Derived.Test.YtcmmafkmfahijaaRows
import Derived.ProofKit
import Derived.OpenShut
import Derived.ShutString
import Derived.ChangeOld
import Derived.Below
import Derived.LoopTactic
import Derived.Deep.RegionHeld3
import Derived.Deep.DeepCutAuto
namespace Go.Proofs.Ytcmmafkmfahijaa.fnBits
open Go.ChangeShapes Go.WideShapes Go.ChangeAt Go.RowKit
open Go.ChangeMaps (open_string shut_string)
set_option linter.unusedVariables false
open Ieee (single double)
theorem Bytes.step {n : Nat} {a : Option Addr} {w w' : World} (hb : Below w.heap.size w w') (h : Bytes w.heap.size a n w) : Bytes w'.heap.size a n w' := by
  rcases h with h | ⟨b, o, e, l, h⟩
  · exact .inl h
  · exact .inr ⟨b, o, e, Nat.lt_of_lt_of_le l hb.size, fun i hi => (h i hi).imp fun v hv => ⟨hv.1, hv.2.1, cellKeep hb hv.2.2⟩⟩
theorem ord_none {r : Nat} (h : nanB .f32 r = true) : FloatKind.f32.format.order r r = none := order_nan_left _ h
theorem long_no {n : Nat} (h : n ≤ 1048576) : decide ((1048576 : Int) < (n : Int)) = false := decide_eq_false (by omega)
theorem long_yes {n : Nat} (h : ¬ n ≤ 1048576) : decide ((1048576 : Int) < (n : Int)) = true := decide_eq_true (by omega)
theorem mask_fin (x : Nat) (hx : x < 4294967296) (hn : nanB .f32 x = false) : (bits .and .i64 (x : Int) 2139095040 != 2139095040) = finB x := by
  rw [and_exp x hx]
  unfold finB
  rw [nan32, decide_eq_false_iff_not] at hn
  have hr : rungAt Ieee.single x = x % 2147483648 := rfl
  rw [hr, single_inf]
  by_cases h : x % 2147483648 < 2139095040
  · rw [decide_eq_true h]
    have : ¬ (((x % 2147483648 / 8388608 * 8388608 : Nat) : Int) = 2139095040) := by omega
    simpa using this
  · rw [decide_eq_false h]
    have : (((x % 2147483648 / 8388608 * 8388608 : Nat) : Int) = 2139095040) := by omega
    rw [this]; rfl
theorem key_low {x : Nat} (h : nanB .f32 x = false) : -2139095040 ≤ keyOf single x := by
  have l := le_of_not_nan h
  have l2 : rungAt single x ≤ 2139095040 := l
  unfold keyOf sgn
  split <;> omega
theorem key_high {x : Nat} (h : nanB .f32 x = false) : keyOf single x ≤ 2139095040 := by
  have l := le_of_not_nan h
  have l2 : rungAt single x ≤ 2139095040 := l
  unfold keyOf sgn
  split <;> omega
def canon (x : Nat) : Nat := if nanB .f32 x then 2143289344 else x
theorem bits_nan (x : Nat) (hx : x < 4294967296) : (bitsOf x == 2143289344) = nanB .f32 x := by
  unfold bitsOf
  cases nx : nanB .f32 x
  · rw [if_neg (by decide), beq_eq_false_iff_ne]
    intro e
    have e2 : x = 2143289344 := by omega
    rw [e2, nan_canon] at nx; cases nx
  · rfl
theorem bits_range (x : Nat) (hx : x < 4294967296) : 0 ≤ bitsOf x ∧ bitsOf x < 4294967296 := by
  unfold bitsOf
  split <;> omega
theorem bits_mask (x : Nat) (hx : x < 4294967296) : (bits .and .i64 (bitsOf x) 2139095040 != 2139095040) = finB x := by
  unfold bitsOf
  cases nx : nanB .f32 x
  · rw [if_neg (by decide)]; exact mask_fin x hx nx
  · have hf : finB x = false := by unfold finB; rw [nan32, decide_eq_true_eq] at nx; exact decide_eq_false (by unfold rungAt; rw [single_sign, single_inf]; omega)
    rw [if_pos rfl, hf]; decide +kernel
theorem self_eq (x : Nat) : (FloatKind.f32.format.order x x != some .eq) = nanB .f32 x := by
  rw [order_self]
  cases nanB .f32 x <;> rfl
theorem from_bits (x : Nat) (hx : x < 4294967296) (w : World) : Calls Try.prog 33 #[.int .i64 (bitsOf x)] w fun e w' => e = .returned (.tuple #[.float .f32 (canon x), .bool true]) ∧ w = w' := by
  unfold bitsOf canon
  cases nanB .f32 x
  · rw [if_neg (by decide), if_neg (by decide)]
    have p0 : (0 : Int) ≤ (x : Int) := by omega
    have p1 : (x : Int) ≤ 4294967295 := by omega
    have hm : (x : Int) % 4294967296 = (x : Int) := by omega
    go_enter Try.func33, Try.ntmps33
    go_wp2_with (first | (go_at_call 76; go_in))
    go_ret2
    exact ⟨rfl, rfl⟩
  · rw [if_pos rfl, if_pos rfl]
    go_enter Try.func33, Try.ntmps33
    go_wp2_with (first | (go_at_call 76; go_in))
    go_ret2
    exact ⟨rfl, rfl⟩
theorem same_canon (x : Nat) (hx : x < 4294967296) (w : World) : Calls Try.prog 34 #[.float .f32 (canon x), .float .f32 x] w fun e w' => e = .returned (.bool true) ∧ w = w' := by
  have e : sameB (canon x) x = true := by
    unfold canon
    cases nx : nanB .f32 x
    · rw [if_neg (by decide)]; unfold sameB; simp
    · rw [if_pos rfl]; exact sameB_both nan_canon nx
  have h := impl_SameNumber (canon x) x (by unfold canon; split <;> omega) hx w
  rw [e] at h
  exact h
set_option maxRecDepth 100000
set_option maxHeartbeats 9600000 in
theorem walk (W : World) (a0 : Value) (w0 : Is_B a0 W) (a1 : Value) (w1 : Is_B a1 W) : Calls Try.prog 8 #[a0, a1] W fun e w' => e = .returned (.bool true) ∧ Below W.heap.size W w' := by
  obtain ⟨a, n, c, rfl, hn, hA⟩ := w0
  obtain ⟨a', n', c', rfl, hn', hM⟩ := w1
  have HA := Lib.hid hA
  have HM := Lib.hid hM
  clear hA hM
  by_cases h1 : n ≤ 1048576
  case neg =>
    have g1 := long_yes h1
    go_enter Try.func8, Try.ntmps8
    go_wp2_with (go_at_call 25; go_in)
    go_ret
    exact ⟨rfl, Below.refl _ _⟩
  by_cases h2 : n' ≤ 1048576
  case neg =>
    have g1 := long_no h1
    have g2 := long_yes h2
    go_enter Try.func8, Try.ntmps8
    go_wp2_with (go_at_call 25; go_in)
    go_ret
    exact ⟨rfl, Below.refl _ _⟩
  have g1 := long_no h1
  have g2 := long_no h2
  · go_enter Try.func8, Try.ntmps8
    go_wp2_with (go_at_call 25; go_in)
    refine (any_number a n c hn _ HA.out).mono ?_
    rintro e w1 ⟨x, rfl, hx, b1⟩
    have B1 := Lib.hid b1
    have HM1 := Lib.hid (Bytes.step b1 HM.out)
    clear b1
    go_wp2_with fail
    refine (any_number a' n' c' hn' _ HM1.out).mono ?_
    rintro e w2 ⟨y, rfl, hy, b2⟩
    have B2 := Lib.hid (belowNext B1.out b2)
    clear b2
    clear g1 g2
    have CBX := Lib.hid (fun w => impl_BitsOf x hx w)
    have CBY := Lib.hid (fun w => impl_BitsOf y hy w)
    have CF := Lib.hid (fun w => from_bits x hx w)
    have CS1 := Lib.hid (fun w => same_canon x hx w)
    have CS2 := Lib.hid (fun w => impl_SameNumber x y hx hy w)
    have CFI := Lib.hid (fun w => impl_IsFinite x w)
    have q1 : (bitsOf x == bitsOf y) = sameB x y := rfl
    have q2 := bits_nan x hx
    have q3 := bits_mask x hx
    have q4 := bits_range x hx
    have q5 := self_eq x
    have p1 : decide (bitsOf x < 0) = false := decide_eq_false (by omega)
    have p2 : decide (4294967295 < bitsOf x) = false := decide_eq_false (by omega)
    obtain ⟨FB, eFB⟩ : ∃ b, b = finB x := ⟨_, rfl⟩
    have HFB := Lib.hid eFB
    rw [← eFB] at q3 CFI
    obtain ⟨NB, eNB⟩ : ∃ b, b = nanB .f32 x := ⟨_, rfl⟩
    have HNB := Lib.hid eNB
    rw [← eNB] at q2 q5
    generalize sameB x y = SB at *
    generalize bitsOf x = N at *
    generalize bitsOf y = M at *
    generalize canon x = X at *
    clear eFB eNB q4
    go_upto_region 9 with (first | (go_at_call 32; (with_reducible refine (CBX.out _).mono ?_); rintro e w' ⟨rfl, rfl⟩) | (go_at_call 32; (with_reducible refine (CBY.out _).mono ?_); rintro e w' ⟨rfl, rfl⟩) | (go_at_call 33; refine (CF.out _).mono ?_; rintro e w' ⟨rfl, rfl⟩) | (go_at_call 34; (with_reducible refine (CS1.out _).mono ?_); rintro e w' ⟨rfl, rfl⟩) | (go_at_call 34; (with_reducible refine (CS2.out _).mono ?_); rintro e w' ⟨rfl, rfl⟩) | (go_at_call 35; refine (CFI.out _).mono ?_; rintro e w' ⟨rfl, nn, rfl⟩))
    clear q1 q2 q3 q5 p1 p2 CBX CBY CF CS1 CS2
    cases NB with
    | true =>
      have nx : nanB .f32 x = true := HNB.out.symm
      have sx := ord_none nx
      have nu : nanB .f32 (nextF x) = true := by unfold nextF; rw [nx, if_pos rfl]; exact cnan_nan _
      have nd : nanB .f32 (prevF x) = true := by unfold prevF; rw [nan_neg]; unfold nextF; rw [nan_neg, nx, if_pos rfl]; exact cnan_nan _
      clear nx
      go_wp2_with (first | (go_at_call 36; refine (impl_NextUp _ hx _).mono ?_; rintro e w' ⟨r, nn, rfl, hr, rfl⟩; have so := ord_none (hr.nan_iff.trans nu); clear hr) | (go_at_call 37; refine (impl_NextDown _ hx _).mono ?_; rintro e w' ⟨r, nn, rfl, hr, rfl⟩; have so2 := ord_none (hr.nan_iff.trans nd); clear hr))
      go_ret
      refine ⟨rfl, ?_⟩
      repeat (first | exact B2.out | refine below_drewN ?_ _)
    | false =>
      have nx : nanB .f32 x = false := HNB.out.symm
      have sx := order_self .f32 x
      rw [nx, if_neg (by decide)] at sx
      cases FB with
      | false =>
        have hf : finB x = false := HFB.out.symm
        have hx2 : x = 2139095040 ∨ x = 4286578688 := by
          unfold finB rungAt at hf
          rw [single_sign, single_inf, decide_eq_false_iff_not] at hf
          rw [nan32, decide_eq_false_iff_not] at nx
          omega
        clear nx hf HFB HNB
        rcases hx2 with rfl | rfl
        · have u1 : nextF 2139095040 = 2139095040 := by decide +kernel
          have d1 : prevF 2139095040 = 2139095039 := by decide +kernel
          have u2 : nanB .f32 (nextF 2139095040) = false := by rw [u1]; decide +kernel
          have d2 : nanB .f32 (prevF 2139095040) = false := by rw [d1]; decide +kernel
          have o1 : (FloatKind.f32.format.order 2139095040 0 == some .gt) = true := by decide +kernel
          have o2 : (FloatKind.f32.format.order 2139095039 2139095040 == some .lt) = true := by decide +kernel
          go_wp2_with (first | (go_at_call 36; refine (up_num _ (by assumption) (by assumption) _).mono ?_; rintro e w' ⟨rfl, nn, rfl⟩) | (go_at_call 37; refine (down_num _ (by assumption) (by assumption) _).mono ?_; rintro e w' ⟨rfl, nn, rfl⟩) | (go_at_call 35; refine (CFI.out _).mono ?_; rintro e w' ⟨rfl, nn, rfl⟩))
          go_ret
          refine ⟨rfl, ?_⟩
          repeat (first | exact B2.out | refine below_drewN ?_ _)
        · have u1 : nextF 4286578688 = 4286578687 := by decide +kernel
          have d1 : prevF 4286578688 = 4286578688 := by decide +kernel
          have u2 : nanB .f32 (nextF 4286578688) = false := by rw [u1]; decide +kernel
          have d2 : nanB .f32 (prevF 4286578688) = false := by rw [d1]; decide +kernel
          have o1 : (FloatKind.f32.format.order 4286578688 0 == some .gt) = false := by decide +kernel
          have o2 : (FloatKind.f32.format.order 4286578687 4286578688 == some .gt) = true := by decide +kernel
          have o3 : (FloatKind.f32.format.order 4286578688 0 == some .lt) = true := by decide +kernel
          go_wp2_with (first | (go_at_call 36; refine (up_num _ (by assumption) (by assumption) _).mono ?_; rintro e w' ⟨rfl, nn, rfl⟩) | (go_at_call 37; refine (down_num _ (by assumption) (by assumption) _).mono ?_; rintro e w' ⟨rfl, nn, rfl⟩) | (go_at_call 35; refine (CFI.out _).mono ?_; rintro e w' ⟨rfl, nn, rfl⟩))
          go_ret
          refine ⟨rfl, ?_⟩
          repeat (first | exact B2.out | refine below_drewN ?_ _)
      | true =>
        have hf : finB x = true := HFB.out.symm
        have hni : x ≠ 2139095040 := fun e => by subst e; revert hf; decide +kernel
        have hnj : x ≠ 4286578688 := fun e => by subst e; revert hf; decide +kernel
        obtain ⟨u1, u2, u3⟩ := nextF_key hx nx hni
        obtain ⟨d1, d2, d3⟩ := prevF_key hx nx hnj
        have u4 : nextF x ≠ 4286578688 := fun e => by
          have k1 : keyOf single 4286578688 = -2139095040 := by decide +kernel
          have k2 := key_low nx
          rw [e, k1] at u2; omega
        have d4 : prevF x ≠ 2139095040 := fun e => by
          have k1 : keyOf single 2139095040 = 2139095040 := by decide +kernel
          have k2 := key_high nx
          rw [e, k1] at d2; omega
        obtain ⟨v1, v2, v3⟩ := prevF_key u3 u1 u4
        obtain ⟨t1, t2, t3⟩ := nextF_key d3 d1 d4
        have f1 : (FloatKind.f32.format.order (nextF x) x == some .gt) = true := by rw [ordGt u1 nx]; exact decide_eq_true (by omega)
        have f2 : (FloatKind.f32.format.order (prevF x) x == some .lt) = true := by rw [ordLt d1 nx]; exact decide_eq_true (by omega)
        have f3 : (FloatKind.f32.format.order (prevF (nextF x)) x == some .eq) = true := by rw [ordEq v1 nx]; exact decide_eq_true (by omega)
        have f4 : (FloatKind.f32.format.order (nextF (prevF x)) x == some .eq) = true := by rw [ordEq t1 nx]; exact decide_eq_true (by omega)
        have FY : Hid (((FloatKind.f32.format.order y x == some .gt) = false ∧ (FloatKind.f32.format.order y x == some .lt) = false) ∨ ((FloatKind.f32.format.order y x == some .gt) = true ∧ (FloatKind.f32.format.order y x == some .lt) = false ∧ (FloatKind.f32.format.order y (nextF x) == some .lt) = false) ∨
            ((FloatKind.f32.format.order y x == some .gt) = false ∧ (FloatKind.f32.format.order y x == some .lt) = true ∧ (FloatKind.f32.format.order y (prevF x) == some .gt) = false)) := by
          refine Lib.hid ?_
          cases ny : nanB .f32 y with
          | true => exact .inl ⟨ordNan ny, ordNan ny⟩
          | false =>
            rw [ordGt ny nx, ordLt ny nx, ordLt ny u1, ordGt ny d1, u2, d2]
            rcases Int.lt_trichotomy (keyOf single y) (keyOf single x) with l | l | l
            · exact .inr (.inr ⟨decide_eq_false (by omega), decide_eq_true l, decide_eq_false (by omega)⟩)
            · exact .inl ⟨decide_eq_false (by omega), decide_eq_false (by omega)⟩
            · exact .inr (.inl ⟨decide_eq_true l, decide_eq_false (by omega), decide_eq_false (by omega)⟩)
        clear u2 d2 v2 t2 hni hnj u4 d4 nx
        generalize hUU : nextF x = U at *
        generalize hDD : prevF x = D at *
        have C1 := Lib.hid (fun w => up_num x hx (by rw [hUU]; exact u1) w)
        have C2 := Lib.hid (fun w => down_num x hx (by rw [hDD]; exact d1) w)
        rw [hUU] at C1
        rw [hDD] at C2
        have C3 := Lib.hid (fun w => down_num U u3 v1 w)
        have C4 := Lib.hid (fun w => up_num D d3 t1 w)
        clear hUU hDD u1 u3 d1 d3 v1 v3 t1 t3
        generalize prevF U = DU at *
        generalize nextF D = UD at *
        clear hf HFB HNB
        rcases FY.out with ⟨y1, y2⟩ | ⟨y1, y2, y3⟩ | ⟨y1, y2, y3⟩
        all_goals
          go_wp2_with (first | (go_at_call 36; (with_reducible refine (C1.out _).mono ?_); rintro e w' ⟨rfl, nn, rfl⟩) | (go_at_call 36; (with_reducible refine (C4.out _).mono ?_); rintro e w' ⟨rfl, nn, rfl⟩) | (go_at_call 37; (with_reducible refine (C2.out _).mono ?_); rintro e w' ⟨rfl, nn, rfl⟩) | (go_at_call 37; (with_reducible refine (C3.out _).mono ?_); rintro e w' ⟨rfl, nn, rfl⟩) | (go_at_call 35; refine (CFI.out _).mono ?_; rintro e w' ⟨rfl, nn, rfl⟩))
          go_ret
          refine ⟨rfl, ?_⟩
          repeat (first | exact B2.out | refine below_drewN ?_ _)

theorem own : ownKnob Try.prog.godebug = none := by kernel_rfl
theorem laidOut : laidOutB Try.prog = true := by kernel_rfl
set_option maxRecDepth 100000 in
theorem lifted (os : Os) (started : os.Started) (H : Type) (enc : TypeId × Value → H) :
    ReturnsInHanded {} Try.checked os 8 .any (Rows.fnBitsSpec.pre6 enc Try.prog Try.f8 Rows.fnBitsRow.domain false) (Rows.fnBitsSpec.post enc Try.prog Try.f8 false true false false) := by
  refine returnsInHanded_of_change (C := Try.checked) own started (by kernel_rfl) Try.func8
    (ChangeSpec.witness6 (enc := enc) (C := Try.checked) false ⟨#[], #[.slice none 0 0, .slice none 0 0], []⟩ 8 (by kernel_rfl) (by kernel_rfl) (by kernel_rfl) (by kernel_rfl)) ?_
  intro W base args ds gs before hval0 hW hcnd _
  have hval : ∀ (j : Nat) t v, Try.f8.params[j]? = some t → args[j]? = some v → Value.okWide Try.prog W .any base t v := hval0
  have hW' := hW
  obtain ⟨p, q, hA0, hV, rfl, hfz, hnd⟩ := hW
  have hA : DataW.TrodAll enc Try.prog W 0 (fun _ => true) true Try.f8.params.toList args.toList ds p := hA0
  rw [Try.params8] at hA hval
  obtain ⟨v0, vs0, d0, ds0, p0, q0, hargs, rfl, rfl, h0, r0⟩ := trodAll_cons hA
  obtain ⟨v1, vs1, d1, ds1, p1, q1, rfl, rfl, rfl, h1, r1⟩ := trodAll_cons r0
  obtain ⟨rfl, rfl, rfl⟩ := trodAll_nil r1
  obtain rfl : args = #[v0, v1] := by cases args; simp_all
  obtain ⟨rfl, rfl⟩ := trodVars_none hV
  have k0 := h0
  have lt0 : ∀ x ∈ p0, x.block < W.heap.size := by obtain ⟨m, hm⟩ := k0; exact DataW.trod_lt m _ _ _ hm
  obtain ⟨a0, rfl, w0⟩ := opened_B (hval 0 34 v0 rfl rfl) h0
  have k1 := h1
  have lt1 : ∀ x ∈ p1, x.block < W.heap.size := by obtain ⟨m, hm⟩ := k1; exact DataW.trod_lt m _ _ _ hm
  obtain ⟨a1, rfl, w1⟩ := opened_B (hval 1 34 v1 rfl rfl) h1
  clear hA0 hval0
  refine (walk W a0 w0 a1 w1).mono fun e W' ⟨he, bel⟩ => ?_
  subst he
  exact ⟨_, rfl, _, _, _, [], _, [], hW', trodAll_mk1 (shut_bool Try.underlying4 _), (trodAll_cons_mk (Below.trod laidOut (by kernel_rfl) (of_decide_eq_true (by kernel_rfl)) k0 bel lt0) (trodAll_cons_mk (Below.trod laidOut (by kernel_rfl) (of_decide_eq_true (by kernel_rfl)) k1 bel lt1) trodAll_mk0)), rfl, bel.frame _, fun h => by cases h⟩

theorem over : Rows.fnBitsRow.holds Try.pinned (OpenSpec.ofChange Rows.fnBitsSpec) :=
  OpenClaim.holds_of_wide 8 Try.f8 rfl rfl rfl rfl rfl rfl rfl ⟨rfl, rfl, rfl, rfl, rfl⟩ rfl rfl rfl rfl rfl (by kernel_rfl) Try.func8 (by kernel_rfl)
    (of_decide_eq_true (by kernel_rfl)) (by unfold Func.isWrapper; first | (rw [if_pos (by decide +kernel)]; kernel_rfl) | (rw [if_neg (by decide +kernel)]; exact ⟨rfl, rfl⟩))
    (fun os started H enc _ => lifted os started H enc)

/-- The given statement. -/
theorem proved : Rows.FnBitsSaid := over
end Go.Proofs.Ytcmmafkmfahijaa.fnBits
