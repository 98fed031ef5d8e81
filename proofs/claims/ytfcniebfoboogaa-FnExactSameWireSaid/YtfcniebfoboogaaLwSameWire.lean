/- The given statement FnExactSameWire: the program's function and the reference's agree, for every input. Conditions: none beyond the statement's own. -/
import Derived.Test.YtfcniebfoboogaaSameW
import Derived.Test.YtfcniebfoboogaaOpen
import Derived.Test.YtfcniebfoboogaaRows
import Derived.ProofKit
import Derived.OpenShut
import Derived.ShutString
import Derived.ChangeOld
import Derived.Below
import Derived.LoopTactic
import Derived.Deep.RegionHeld3
import Derived.Deep.DeepCutAuto
namespace Go.Proofs.Ytfcniebfoboogaa.fnExactSameWire
open Go.ChangeShapes Go.WideShapes Go.ChangeAt Go.RowKit
open Go.ChangeMaps (open_string shut_string)
set_option linter.unusedVariables false
set_option maxHeartbeats 3200000 in
theorem walk (W : World) (a0 : Value) (w0 : Is_W a0 W) (a1 : Value) (w1 : Is_W a1 W) : Calls Try.prog 4 #[a0, a1] W fun e w' => e = .returned (.bool true) ∧ Below W.heap.size W w' := by
  obtain ⟨a, n, c, cl, cu, P, rfl, hnm, hA, hP, hcu⟩ := w0
  obtain ⟨b, m, d, cm, cv, Q, rfl, hmm, hB, hQ, hcv⟩ := w1
  have HA := Lib.hid hA
  have HB := Lib.hid hB
  have HP := Lib.hid hP
  have HQ := Lib.hid hQ
  clear hA hB hP hQ
  by_cases hn : n ≤ 1048576
  · have hpos : decide ((1048576 : Int) - (n : Int) < 0) = false := decide_eq_false (by omega)
    by_cases hm : (m : Int) ≤ 1048576 - (n : Int)
    · have hpos2 : decide ((1048576 : Int) - (n : Int) - (m : Int) < 0) = false := decide_eq_false (by omega)
      have hm2 : m ≤ 1048576 := by omega
      cases hval : sameWB P Q n m cu cv cl cm
      all_goals
        go_enter Try.func4, Try.ntmps4
        go_wp2_with fail
        refine (laws_szWireI a n c cu _ cl (by omega) (by omega) _).mono ?_
        rintro e u1 ⟨rfl, bel⟩
        obtain ⟨k0, k1, k2, m0, m1, m2⟩ := twoBoxes bel
        have L1 : Live2 W a n P b m Q u1 := Live2.keep bel (Live2.keep (belowAlloc (belowAlloc (Below.refl _ _) _) _) ⟨HA.out, HB.out, Below.refl _ _⟩)
        clear bel
        go_wp2_with fail
        refine (laws_szWireI b m d cv _ cm hm (by omega) _).mono ?_
        rintro e u2 ⟨rfl, bel⟩
        have T : T2 W a n c cu cl P b m d cv cm Q u2 := T2.keep bel ⟨k0, k1, k2, m0, m1, m2, L1⟩
        clear k0 k1 k2 m0 m1 m2 L1 bel
        go_wp2_with fail
        go_region_held3 (fun w' => T2 W a n c cu cl P b m d cv cm Q w') (with_reducible (first | exact T2.drew T | exact T2.keep hb (by assumption) | exact T2.keep hb (T2.drew T)))
          (first
            | (go_at_call_of 17 cu; refine (laws_toWireA a n c cu cl P hn _ (T2.live (by assumption)).1).mono ?_; rintro e u3 ⟨X, rfl, row, hX, hb⟩; have hXP := Lib.hid (NewP.row row); clear row hX; (try (have hYP2 := Lib.hid (NewP.keep hb hYP.out); clear hYP)))
            | (go_at_call_of 17 cv; refine (laws_toWireA b m d cv cm Q hm2 _ (T2.live (by assumption)).2.1).mono ?_; rintro e u4 ⟨Y, rfl, row, hY, hb⟩; have hYP := Lib.hid (NewP.row row); clear row hY; (try (have hXP2 := Lib.hid (NewP.keep hb hXP.out); clear hXP)))
            | (go_at_call 20; (first | refine (spec_SameWire _ 0 n n cu _ 0 m m cv cl cm P Q hn hm2 HP.out HQ.out hcu hcv _ hXP2.out.1 hYP.out.1).mono ?_ | refine (spec_SameWire _ 0 n n cu _ 0 m m cv cl cm P Q hn hm2 HP.out HQ.out hcu hcv _ hXP.out.1 hYP2.out.1).mono ?_); rw [hval]; rintro e u5 ⟨rfl, hb⟩))
        all_goals
          have T5 : T2 W a n c cu cl P b m d cv cm Q u5 := by with_reducible assumption
          clear T
          obtain ⟨k0, k1, k2, m0, m1, m2, L5⟩ := T5
          go_wp2_with fail
          refine (laws_toWireA a n c cu cl P hn _ L5.1).mono ?_
          rintro e u6 ⟨X6, rfl, row, hX6, bel⟩
          have k0' := cellKeep bel k0
          have k1' := cellKeep bel k1
          have k2' := cellKeep bel k2
          have m0' := cellKeep bel m0
          have m1' := cellKeep bel m1
          have m2' := cellKeep bel m2
          have L6 := Live2.keep bel L5
          have N6 := NewP.row row
          have lm : W.heap.size + 1 < u6.heap.size := World.block_lt_of_cell? _ _ m0'
          clear bel row hX6 k0 k1 k2 m0 m1 m2 L5
          go_wp2_with fail
          refine (laws_toWireA b m d cv cm Q hm2 _ (PtsA.keep (belowAlloc (Below.refl _ _) _) L6.2.1)).mono ?_
          rintro e u7 ⟨Y7, rfl, row, hY7, bel⟩
          have cx := CopyW.new N6 bel
          have T7 : T2 W a n c cu cl P b m d cv cm Q u7 := T2.keep bel (T2.keep (belowAlloc (Below.refl _ _) _) ⟨k0', k1', k2', m0', m1', m2', L6⟩)
          have N7 := NewP.row row
          have lx : u6.heap.size < u7.heap.size := World.block_lt_of_cell? _ _ cx.1
          obtain ⟨x0, x1, x2, xv, xl⟩ := cx
          have xh := Lib.hid (And.intro xv xl)
          have N7h := Lib.hid N7
          have T7h := Lib.hid T7
          clear bel row hY7 k0' k1' k2' m0' m1' m2' L6 N6 T7 xv xl N7
          go_wp2_with fail
          refine (impl_SameWire X6 0 n n cu Y7 0 m m cv cl cm P Q hn hm2 HP.out HQ.out hcu hcv _ (VS.keep (belowAlloc (Below.refl _ _) _) xh.out.1) (VS.keep (belowAlloc (Below.refl _ _) _) N7h.out.1)).mono ?_
          rw [hval]
          rintro e u8 ⟨rfl, bel⟩
          have U8 : U2 W a n c cu cl P b m d cv cm Q u6.heap.size X6 u7.heap.size Y7 u8 := ⟨CopyW.keep bel (CopyW.keep (belowAlloc (Below.refl _ _) _) ⟨x0, x1, x2, xh.out.1, xh.out.2⟩), CopyW.new N7h.out bel, T2.keep bel (T2.keep (belowAlloc (Below.refl _ _) _) T7h.out)⟩
          clear bel x0 x1 x2 xh N7h T7h
          go_wp2_with fail
          go_region_held3 (fun w' => U2 W a n c cu cl P b m d cv cm Q u6.heap.size X6 u7.heap.size Y7 w') (with_reducible (first | exact U2.drew U8 | exact U2.keep hb (by assumption) | exact U2.keep hb (U2.drew U8)))
            (first
              | (go_at_call 17; refine (laws_toWireA a n c cu cl P hn _ (U2.live (by assumption)).1).mono ?_; rintro e u9 ⟨Z9, rfl, row, hZ9, hb⟩; have hZ := Lib.hid (NewP.row row); clear row hZ9)
              | (go_at_call 19; refine (eqW_first hn (by assumption) hZ).mono ?_; rintro e u10 ⟨rfl, hb⟩))
          have U10 : U2 W a n c cu cl P b m d cv cm Q u6.heap.size X6 u7.heap.size Y7 u10 := by with_reducible assumption
          clear U8 hb
          go_wp2_with fail
          go_region_held3 (fun w' => U2 W a n c cu cl P b m d cv cm Q u6.heap.size X6 u7.heap.size Y7 w') (with_reducible (first | exact U2.drew U10 | exact U2.keep hb (by assumption) | exact U2.keep hb (U2.drew U10)))
            (first
              | (go_at_call 17; refine (laws_toWireA b m d cv cm Q hm2 _ (U2.live (by assumption)).2.1).mono ?_; rintro e u11 ⟨Z11, rfl, row, hZ11, hb⟩; have hZ' := Lib.hid (NewP.row row); clear row hZ11)
              | (go_at_call 19; refine (eqW_second hm2 (by assumption) hZ').mono ?_; rintro e u12 ⟨rfl, hb⟩))
          go_wp2_with fail
          go_ret
          exact ⟨rfl, (U2.live (by assumption)).2.2⟩
    · have hneg : decide ((1048576 : Int) - (n : Int) - (m : Int) < 0) = true := decide_eq_true (by omega)
      go_enter Try.func4, Try.ntmps4
      go_wp2_with fail
      refine (laws_szWireI a n c cu _ cl (by omega) (by omega) _).mono ?_
      rintro e u1 ⟨rfl, bel⟩
      obtain ⟨k0, k1, k2, m0, m1, m2⟩ := twoBoxes bel
      have B1 := Lib.hid (belowNext (belowAlloc (belowAlloc (Below.refl W.heap.size W) _) _) bel)
      clear bel
      go_wp2_with fail
      refine (laws_szWireI_no b m d cv _ cm (by omega) (by omega) (by omega) hmm _).mono ?_
      rintro e u2 ⟨rfl, bel⟩
      go_wp2_with fail
      go_ret
      exact ⟨rfl, belowNext B1.out bel⟩
  · have hneg : decide ((1048576 : Int) - (n : Int) < 0) = true := decide_eq_true (by omega)
    go_enter Try.func4, Try.ntmps4
    go_wp2_with fail
    refine (laws_szWireI_no a n c cu _ cl (by omega) (by omega) (by omega) hnm _).mono ?_
    rintro e u1 ⟨rfl, bel⟩
    go_wp2_with fail
    go_ret
    exact ⟨rfl, belowNext (belowAlloc (belowAlloc (Below.refl W.heap.size W) _) _) bel⟩

theorem own : ownKnob Try.prog.godebug = none := by kernel_rfl
theorem laidOut : laidOutB Try.prog = true := by kernel_rfl
set_option maxRecDepth 100000 in
theorem lifted (os : Os) (started : os.Started) (H : Type) (enc : TypeId × Value → H) :
    ReturnsInHanded {} Try.checked os 4 .any (Rows.fnExactSameWireSpec.pre6 enc Try.prog Try.f4 Rows.fnExactSameWireRow.domain false) (Rows.fnExactSameWireSpec.post enc Try.prog Try.f4 false true false false) := by
  refine returnsInHanded_of_change (C := Try.checked) own started (by kernel_rfl) Try.func4
    (ChangeSpec.witness6 (enc := enc) (C := Try.checked) false ⟨#[], #[.agg #[.slice none 0 0, .bool false, .float .f32 0], .agg #[.slice none 0 0, .bool false, .float .f32 0]], []⟩ 8 (by kernel_rfl) (by kernel_rfl) (by kernel_rfl) (by kernel_rfl)) ?_
  intro W base args ds gs before hval0 hW hcnd _
  have hval : ∀ (j : Nat) t v, Try.f4.params[j]? = some t → args[j]? = some v → Value.okWide Try.prog W .any base t v := hval0
  have hW' := hW
  obtain ⟨p, q, hA0, hV, rfl, hfz, hnd⟩ := hW
  have hA : DataW.TrodAll enc Try.prog W 0 (fun _ => true) true Try.f4.params.toList args.toList ds p := hA0
  rw [Try.params4] at hA hval
  obtain ⟨v0, vs0, d0, ds0, p0, q0, hargs, rfl, rfl, h0, r0⟩ := trodAll_cons hA
  obtain ⟨v1, vs1, d1, ds1, p1, q1, rfl, rfl, rfl, h1, r1⟩ := trodAll_cons r0
  obtain ⟨rfl, rfl, rfl⟩ := trodAll_nil r1
  obtain rfl : args = #[v0, v1] := by cases args; simp_all
  obtain ⟨rfl, rfl⟩ := trodVars_none hV
  have k0 := h0
  have lt0 : ∀ x ∈ p0, x.block < W.heap.size := by obtain ⟨m, hm⟩ := k0; exact DataW.trod_lt m _ _ _ hm
  obtain ⟨a0, rfl, w0⟩ := opened_W (hval 0 25 v0 rfl rfl) h0
  have k1 := h1
  have lt1 : ∀ x ∈ p1, x.block < W.heap.size := by obtain ⟨m, hm⟩ := k1; exact DataW.trod_lt m _ _ _ hm
  obtain ⟨a1, rfl, w1⟩ := opened_W (hval 1 25 v1 rfl rfl) h1
  clear hA0 hval0
  refine (walk W a0 w0 a1 w1).mono fun e W' ⟨he, bel⟩ => ?_
  subst he
  exact ⟨_, rfl, _, _, _, [], _, [], hW', trodAll_mk1 (shut_bool Try.underlying4 _), (trodAll_cons_mk (Below.trod laidOut (by kernel_rfl) (of_decide_eq_true (by kernel_rfl)) k0 bel lt0) (trodAll_cons_mk (Below.trod laidOut (by kernel_rfl) (of_decide_eq_true (by kernel_rfl)) k1 bel lt1) trodAll_mk0)), rfl, bel.frame _, fun h => by cases h⟩

theorem over : Rows.fnExactSameWireRow.holds Try.pinned (OpenSpec.ofChange Rows.fnExactSameWireSpec) :=
  OpenClaim.holds_of_wide 4 Try.f4 rfl rfl rfl rfl rfl rfl rfl ⟨rfl, rfl, rfl, rfl, rfl⟩ rfl rfl rfl rfl rfl (by kernel_rfl) Try.func4 (by kernel_rfl)
    (of_decide_eq_true (by kernel_rfl)) (by unfold Func.isWrapper; first | (rw [if_pos (by decide +kernel)]; kernel_rfl) | (rw [if_neg (by decide +kernel)]; exact ⟨rfl, rfl⟩))
    (fun os started H enc _ => lifted os started H enc)

/-- The given statement. -/
theorem proved : Rows.FnExactSameWireSaid := over
end Go.Proofs.Ytfcniebfoboogaa.fnExactSameWire
