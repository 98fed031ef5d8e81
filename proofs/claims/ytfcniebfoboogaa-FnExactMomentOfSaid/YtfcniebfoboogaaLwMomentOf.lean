/- The given statement FnExactMomentOf: the program's function and the reference's agree, for every input. Conditions: none beyond the statement's own. -/
import Derived.Test.YtfcniebfoboogaaArea
import Derived.Test.YtfcniebfoboogaaOpen
import Derived.Test.YtfcniebfoboogaaRows
import Derived.ProofKit
import Derived.OpenShut
import Derived.ShutString
import Derived.ChangeOld
import Derived.Below
import Derived.LoopTactic
import Derived.Deep.RegionHeld3
import Derived.Deep.DeepCutAuto
namespace Go.Proofs.Ytfcniebfoboogaa.fnExactMomentOf
open Go.ChangeShapes Go.WideShapes Go.ChangeAt Go.RowKit
open Go.ChangeMaps (open_string shut_string)
set_option linter.unusedVariables false
set_option maxHeartbeats 3200000 in
theorem walk (W : World) (a0 : Value) (w0 : Is_W a0 W) : Calls Try.prog 12 #[a0] W fun e w' => e = .returned (.bool true) ∧ Below W.heap.size W w' := by
  obtain ⟨a, n, c, cl, cu, P, rfl, hnm, hA, _, _⟩ := w0
  have HA := Lib.hid hA
  clear hA
  by_cases hn : n ≤ 1048576
  · have hpos : decide ((1048576 : Int) - (n : Int) < 0) = false := decide_eq_false (by omega)
    cases hval : momB P n cu cl
    all_goals
      go_enter Try.func12, Try.ntmps12
      go_wp2_with fail
      refine (laws_szWire a n c cu cl hn _).mono ?_
      rintro e w1 ⟨rfl, bel⟩
      obtain ⟨k0, k1, k2, _, _, _⟩ := newCells bel
      have A1 := Lib.hid (PtsA.keep bel (PtsA.keep (belowAlloc (Below.refl _ _) _) HA.out))
      have B1 := Lib.hid (belowNext (belowAlloc (Below.refl W.heap.size W) _) bel)
      clear bel
      go_wp2_with fail
      refine (laws_toWireA a n c cu cl P hn _ A1.out).mono ?_
      rintro e w2 ⟨X, rfl, row, hX, bel⟩
      have k0' := cellKeep bel k0
      have k1' := cellKeep bel k1
      have k2' := cellKeep bel k2
      have A2 := Lib.hid (PtsA.keep bel A1.out)
      have B2 := Lib.hid (belowNext B1.out bel)
      have X2 := Lib.hid (VS.row (P := P) row)
      clear bel row hX k0 k1 k2 A1 B1
      go_wp2_with fail
      refine (spec_MomentOf _ 0 n n cu cl P hnm _ X2.out).mono ?_
      rw [hval]
      rintro e w3 ⟨p1, p2, p3, rfl, hp1, hp2, hp3, bel⟩
      have k0 := cellKeep bel k0'
      have k1 := cellKeep bel k1'
      have k2 := cellKeep bel k2'
      have A3 := Lib.hid (PtsA.keep bel A2.out)
      have B3 := Lib.hid (belowNext B2.out bel)
      have HS := Lib.hid (And.intro hp1 (And.intro hp2 hp3))
      have lk : W.heap.size < w3.heap.size := World.block_lt_of_cell? _ _ k0
      clear bel k0' k1' k2' A2 B2 X2 hp1 hp2 hp3
      go_wp2_with fail
      refine (laws_toWireA a n c cu cl P hn _ (PtsA.keep (belowAlloc (Below.refl _ _) _) A3.out)).mono ?_
      rintro e w4 ⟨X, rfl, row, hX, bel⟩
      obtain ⟨v0, v1, v2, _, _, _⟩ := newCells bel
      have k0' := cellKeep bel (cellAlloc k0 _)
      have k1' := cellKeep bel (cellAlloc k1 _)
      have k2' := cellKeep bel (cellAlloc k2 _)
      have A4 := Lib.hid (PtsA.keep bel (PtsA.keep (belowAlloc (Below.refl _ _) _) A3.out))
      have B4 := Lib.hid (belowNext (belowAlloc B3.out _) bel)
      have X4 := Lib.hid (VS.row (P := P) row)
      have lX := row.lt
      clear bel row hX k0 k1 k2 A3 B3
      go_wp2_with fail
      refine (impl_MomentOf _ 0 n n cu cl P hnm _ (VS.keep (belowAlloc (Below.refl _ _) _) X4.out)).mono ?_
      rw [hval]
      rintro e w5 ⟨q1, q2, q3, rfl, hq1, hq2, hq3, bel⟩
      obtain ⟨x0, x1, x2, _, _, _⟩ := newCells bel
      have v0' := cellKeep bel (cellAlloc v0 _)
      have v1' := cellKeep bel (cellAlloc v1 _)
      have v2' := cellKeep bel (cellAlloc v2 _)
      have lv : w3.heap.size < w5.heap.size := World.block_lt_of_cell? _ _ v0'
      have k0 := cellKeep bel (cellAlloc k0' _)
      have k1 := cellKeep bel (cellAlloc k1' _)
      have k2 := cellKeep bel (cellAlloc k2' _)
      have S5 : SW W a n c cu cl P X w4.heap.size w5 := ⟨x0, x1, x2, k0, k1, k2, LiveW.keep bel (LiveW.keep (belowAlloc (Below.refl _ _) _) ⟨A4.out, X4.out, lX, B4.out⟩)⟩
      have SH := Lib.hid S5
      have HQ := Lib.hid (And.intro hq1 (And.intro hq2 hq3))
      clear bel k0' k1' k2' A4 B4 X4 lX x0 x1 x2 k0 k1 k2 v0 v1 v2 S5 hq1 hq2 hq3
      go_wp2_with fail
      refine (eqVector_of HQ.out.1 HQ.out.2.1 HQ.out.2.2 HS.out.1 HS.out.2.1 HS.out.2.2 _).mono ?_
      rintro e w6 ⟨rfl, bel⟩
      have S6 : SW W a n c cu cl P X w4.heap.size w6 := SW.keep bel (SW.keep (belowAlloc (Below.refl _ _) _) SH.out)
      clear bel SH HQ HS v0' v1' v2'
      go_wp2_with fail
      go_region_held3 (fun w' => SW W a n c cu cl P X w4.heap.size w') (with_reducible (first | exact SW.drew S6 | exact SW.keep hb (by assumption) | exact SW.keep hb (SW.drew S6)))
        (first
          | (go_at_call 17; refine (laws_toWireA a n c cu cl P hn _ (SW.live (by assumption)).1).mono ?_; rintro e w7 ⟨Y, rfl, row, hY, hb⟩; have hYH := Lib.hid (And.intro (VS.row (P := P) row) row.lt); clear row)
          | (go_at_call 19; refine (eqW_last n cu cl P hn (by assumption) hYH).mono ?_; rintro e w8 ⟨rfl, hb⟩))
      go_wp2_with fail
      go_ret
      exact ⟨rfl, (SW.live (by assumption)).2.2.2⟩
  · have hneg : decide ((1048576 : Int) - (n : Int) < 0) = true := decide_eq_true (by omega)
    go_enter Try.func12, Try.ntmps12
    go_wp2_with fail
    refine (laws_szWire_no a n c cu cl hn hnm _).mono ?_
    rintro e w1 ⟨rfl, bel⟩
    go_wp2_with fail
    go_ret
    exact ⟨rfl, belowNext (belowAlloc (Below.refl W.heap.size W) _) bel⟩

theorem own : ownKnob Try.prog.godebug = none := by kernel_rfl
theorem laidOut : laidOutB Try.prog = true := by kernel_rfl
set_option maxRecDepth 100000 in
theorem lifted (os : Os) (started : os.Started) (H : Type) (enc : TypeId × Value → H) :
    ReturnsInHanded {} Try.checked os 12 .any (Rows.fnExactMomentOfSpec.pre6 enc Try.prog Try.f12 Rows.fnExactMomentOfRow.domain false) (Rows.fnExactMomentOfSpec.post enc Try.prog Try.f12 false true false false) := by
  refine returnsInHanded_of_change (C := Try.checked) own started (by kernel_rfl) Try.func12
    (ChangeSpec.witness6 (enc := enc) (C := Try.checked) false ⟨#[], #[.agg #[.slice none 0 0, .bool false, .float .f32 0]], []⟩ 8 (by kernel_rfl) (by kernel_rfl) (by kernel_rfl) (by kernel_rfl)) ?_
  intro W base args ds gs before hval0 hW hcnd _
  have hval : ∀ (j : Nat) t v, Try.f12.params[j]? = some t → args[j]? = some v → Value.okWide Try.prog W .any base t v := hval0
  have hW' := hW
  obtain ⟨p, q, hA0, hV, rfl, hfz, hnd⟩ := hW
  have hA : DataW.TrodAll enc Try.prog W 0 (fun _ => true) true Try.f12.params.toList args.toList ds p := hA0
  rw [Try.params12] at hA hval
  obtain ⟨v0, vs0, d0, ds0, p0, q0, hargs, rfl, rfl, h0, r0⟩ := trodAll_cons hA
  obtain ⟨rfl, rfl, rfl⟩ := trodAll_nil r0
  obtain rfl : args = #[v0] := by cases args; simp_all
  obtain ⟨rfl, rfl⟩ := trodVars_none hV
  have k0 := h0
  have lt0 : ∀ x ∈ p0, x.block < W.heap.size := by obtain ⟨m, hm⟩ := k0; exact DataW.trod_lt m _ _ _ hm
  obtain ⟨a0, rfl, w0⟩ := opened_W (hval 0 25 v0 rfl rfl) h0
  clear hA0 hval0
  refine (walk W a0 w0).mono fun e W' ⟨he, bel⟩ => ?_
  subst he
  exact ⟨_, rfl, _, _, _, [], _, [], hW', trodAll_mk1 (shut_bool Try.underlying4 _), (trodAll_cons_mk (Below.trod laidOut (by kernel_rfl) (of_decide_eq_true (by kernel_rfl)) k0 bel lt0) trodAll_mk0), rfl, bel.frame _, fun h => by cases h⟩

theorem over : Rows.fnExactMomentOfRow.holds Try.pinned (OpenSpec.ofChange Rows.fnExactMomentOfSpec) :=
  OpenClaim.holds_of_wide 12 Try.f12 rfl rfl rfl rfl rfl rfl rfl ⟨rfl, rfl, rfl, rfl, rfl⟩ rfl rfl rfl rfl rfl (by kernel_rfl) Try.func12 (by kernel_rfl)
    (of_decide_eq_true (by kernel_rfl)) (by unfold Func.isWrapper; first | (rw [if_pos (by decide +kernel)]; kernel_rfl) | (rw [if_neg (by decide +kernel)]; exact ⟨rfl, rfl⟩))
    (fun os started H enc _ => lifted os started H enc)

/-- The given statement. -/
theorem proved : Rows.FnExactMomentOfSaid := over
end Go.Proofs.Ytfcniebfoboogaa.fnExactMomentOf
