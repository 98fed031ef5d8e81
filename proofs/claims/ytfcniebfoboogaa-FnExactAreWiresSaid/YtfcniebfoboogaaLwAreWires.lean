/- The given statement FnExactAreWires: the program's function and the reference's agree, for every input. Conditions: none beyond the statement's own. -/
import Derived.Test.YtfcniebfoboogaaList4
import Derived.Test.YtfcniebfoboogaaOpen
import Derived.Test.YtfcniebfoboogaaRows
import Derived.ProofKit
import Derived.OpenShut
import Derived.ShutString
import Derived.ChangeOld
import Derived.Below
import Derived.LoopTactic
import Derived.Deep.RegionHeld3
import Derived.Deep.DeepCutAuto
namespace Go.Proofs.Ytfcniebfoboogaa.fnExactAreWires
open Go.ChangeShapes Go.WideShapes Go.ChangeAt Go.RowKit
open Go.ChangeMaps (open_string shut_string)
set_option linter.unusedVariables false
theorem walk (W : World) (a0 : Value) (w0 : Is_L a0 W) : Calls Try.prog 7 #[a0] W fun e w' => e = .returned (.bool true) ∧ Below W.heap.size W w' := by
  obtain ⟨A, m, c, D, rfl, hm, hL, hn⟩ := w0
  have HL := Lib.hid hL
  have HN := Lib.hid hn
  clear hL hn
  cases hf : fitsB D m
  · go_enter Try.func7, Try.ntmps7
    go_wp2_with fail
    refine (laws_szWS A m c D hm HN.out _ HL.out).mono ?_
    rintro e w1 ⟨r, rfl, hr, hb⟩
    rw [hf] at hr
    have hr1 : decide (r < 0) = true := hr
    have HB := Lib.hid hb
    clear hr hb
    go_wp2_with fail
    go_ret
    exact ⟨rfl, HB.out⟩
  · have hfit : m + tot D m ≤ 1048576 := by unfold fitsB at hf; exact of_decide_eq_true hf
    have hm1 : m ≤ 1048576 := by omega
    have HN1 : Hid (∀ i, i < m → (D i).n ≤ 1048576) := Lib.hid (fun i hi => by have := tot_each (D := D) hi; omega)
    have S1 := Lib.hid (fun (B : Nat) (w : World) (h : CopyL w B m D) => spec_AreWires B m D hm1 HN.out w h)
    have S2 := Lib.hid (fun (B : Nat) (w : World) (h : CopyL w B m D) => impl_AreWires B m D hm1 HN.out w h)
    generalize areB D m = R at *
    have nn : (R != R) = false := by simp
    clear hfit
    go_enter Try.func7, Try.ntmps7
    go_wp2_with fail
    refine (laws_szWS A m c D hm HN.out _ HL.out).mono ?_
    rintro e w1 ⟨r, rfl, hr, hb⟩
    rw [hf] at hr
    have hr1 : decide (r < 0) = false := hr
    have L1 := Lib.hid (HL.out.keep hb)
    have B1 := Lib.hid hb
    clear hr hb
    go_wp2_with fail
    refine (laws_toWS A m c D hm1 HN1.out _ L1.out).mono ?_
    rintro e w2 ⟨X, rfl, hc, hb⟩
    have C2 := Lib.hid hc
    have L2 := Lib.hid (L1.out.keep hb)
    have B2 := Lib.hid (belowNext B1.out hb)
    clear hb hc L1 B1
    go_wp2_with fail
    refine (S1.out X _ C2.out).mono ?_
    rintro e w3 ⟨rfl, hb⟩
    have L3 := Lib.hid (L2.out.keep hb)
    have B3 := Lib.hid (belowNext B2.out hb)
    clear hb L2 B2 C2
    go_wp2_with fail
    refine (laws_toWS A m c D hm1 HN1.out _ L3.out).mono ?_
    rintro e w4 ⟨Y, rfl, hc, hb⟩
    have C4 := Lib.hid hc
    have L4 := Lib.hid (L3.out.keep hb)
    have B4 := Lib.hid (belowNext B3.out hb)
    clear hb hc L3 B3
    go_wp2_with fail
    refine (S2.out Y _ C4.out).mono ?_
    rintro e w5 ⟨rfl, hb⟩
    have C5 := Lib.hid (C4.out.keep hb)
    have L5 := Lib.hid (L4.out.keep hb)
    have B5 := Lib.hid (belowNext B4.out hb)
    clear hb L4 B4 C4
    go_wp2_with fail
    refine (laws_toWS A m c D hm1 HN1.out _ L5.out).mono ?_
    rintro e w6 ⟨Z, rfl, hc, hb⟩
    have C6 := Lib.hid hc
    have D6 := Lib.hid (C5.out.keep hb)
    have B6 := Lib.hid (belowNext B5.out hb)
    clear hb hc L5 B5 C5
    go_wp2_with fail
    refine (laws_eqWS Y Z m D hm1 HN1.out _ D6.out C6.out).mono ?_
    rintro e w7 ⟨rfl, hb⟩
    have B7 := Lib.hid (belowNext B6.out hb)
    clear hb
    go_wp2_with fail
    go_ret
    exact ⟨rfl, B7.out⟩

theorem own : ownKnob Try.prog.godebug = none := by kernel_rfl
theorem laidOut : laidOutB Try.prog = true := by kernel_rfl
set_option maxRecDepth 100000 in
theorem lifted (os : Os) (started : os.Started) (H : Type) (enc : TypeId × Value → H) :
    ReturnsInHanded {} Try.checked os 7 .any (Rows.fnExactAreWiresSpec.pre6 enc Try.prog Try.f7 Rows.fnExactAreWiresRow.domain false) (Rows.fnExactAreWiresSpec.post enc Try.prog Try.f7 false true false false) := by
  refine returnsInHanded_of_change (C := Try.checked) own started (by kernel_rfl) Try.func7
    (ChangeSpec.witness6 (enc := enc) (C := Try.checked) false ⟨#[], #[.slice none 0 0], []⟩ 8 (by kernel_rfl) (by kernel_rfl) (by kernel_rfl) (by kernel_rfl)) ?_
  intro W base args ds gs before hval0 hW hcnd _
  have hval : ∀ (j : Nat) t v, Try.f7.params[j]? = some t → args[j]? = some v → Value.okWide Try.prog W .any base t v := hval0
  have hW' := hW
  obtain ⟨p, q, hA0, hV, rfl, hfz, hnd⟩ := hW
  have hA : DataW.TrodAll enc Try.prog W 0 (fun _ => true) true Try.f7.params.toList args.toList ds p := hA0
  rw [Try.params7] at hA hval
  obtain ⟨v0, vs0, d0, ds0, p0, q0, hargs, rfl, rfl, h0, r0⟩ := trodAll_cons hA
  obtain ⟨rfl, rfl, rfl⟩ := trodAll_nil r0
  obtain rfl : args = #[v0] := by cases args; simp_all
  obtain ⟨rfl, rfl⟩ := trodVars_none hV
  have k0 := h0
  have lt0 : ∀ x ∈ p0, x.block < W.heap.size := by obtain ⟨m, hm⟩ := k0; exact DataW.trod_lt m _ _ _ hm
  obtain ⟨a0, rfl, w0⟩ := opened_L (hval 0 41 v0 rfl rfl) h0
  clear hA0 hval0
  refine (walk W a0 w0).mono fun e W' ⟨he, bel⟩ => ?_
  subst he
  exact ⟨_, rfl, _, _, _, [], _, [], hW', trodAll_mk1 (shut_bool Try.underlying4 _), (trodAll_cons_mk (Below.trod laidOut (by kernel_rfl) (of_decide_eq_true (by kernel_rfl)) k0 bel lt0) trodAll_mk0), rfl, bel.frame _, fun h => by cases h⟩

theorem over : Rows.fnExactAreWiresRow.holds Try.pinned (OpenSpec.ofChange Rows.fnExactAreWiresSpec) :=
  OpenClaim.holds_of_wide 7 Try.f7 rfl rfl rfl rfl rfl rfl rfl ⟨rfl, rfl, rfl, rfl, rfl⟩ rfl rfl rfl rfl rfl (by kernel_rfl) Try.func7 (by kernel_rfl)
    (of_decide_eq_true (by kernel_rfl)) (by unfold Func.isWrapper; first | (rw [if_pos (by decide +kernel)]; kernel_rfl) | (rw [if_neg (by decide +kernel)]; exact ⟨rfl, rfl⟩))
    (fun os started H enc _ => lifted os started H enc)

/-- The given statement. -/
theorem proved : Rows.FnExactAreWiresSaid := over
end Go.Proofs.Ytfcniebfoboogaa.fnExactAreWires
