/- The given statement FnExactSquareWire: the program's function and the reference's agree, for every input. Conditions: none beyond the statement's own. -/
import Derived.Test.YtfcniebfoboogaaSq
import Derived.Test.YtfcniebfoboogaaOpen
import Derived.Test.YtfcniebfoboogaaRows
import Derived.ProofKit
import Derived.OpenShut
import Derived.ShutString
import Derived.ChangeOld
import Derived.Below
import Derived.LoopTactic
import Derived.Deep.RegionHeld3
import Derived.Deep.DeepCutAuto
namespace Go.Proofs.Ytfcniebfoboogaa.fnExactSquareWire
open Go.ChangeShapes Go.WideShapes Go.ChangeAt Go.RowKit
open Go.ChangeMaps (open_string shut_string)
set_option linter.unusedVariables false
set_option maxHeartbeats 3200000 in
theorem walk (a0 : Nat) (w0 : (Lit.float .f32 a0).wf = true) (a1 : Nat) (w1 : (Lit.float .f32 a1).wf = true) (a2 : Nat) (w2 : (Lit.float .f32 a2).wf = true) (W : World) : Calls Try.prog 6 #[.float .f32 a0, .float .f32 a1, .float .f32 a2] W fun e w' => e = .returned (.bool true) ∧ Below W.heap.size W w' := by
  have hN : gN (sqB a0 a1 a2) 4 ≤ 1048576 := gN_le fun _ => by omega
  have S1 := Lib.hid (fun w => spec_SquareWire a0 a1 a2 w)
  have S2 := Lib.hid (fun w => impl_SquareWire a0 a1 a2 w)
  generalize gN (sqB a0 a1 a2) 4 = N at *
  generalize gC (sqB a0 a1 a2) true = CL at *
  generalize gN (sqB a0 a1 a2) a2 = CU at *
  generalize sqB a0 a1 a2 = FL at *
  generalize sqP a0 a1 = P at *
  have neg : decide ((N : Int) * 3 + 1 < 0) = false := decide_eq_false (by omega)
  have nn : (((N : Int) * 3 + 1) != ((N : Int) * 3 + 1)) = false := by simp
  cases FL
  all_goals
    go_enter Try.func6, Try.ntmps6
    go_wp2_with fail
    refine (S1.out _).mono ?_
    rintro e w1 ⟨p0, c0, B0, rfl, r0, l0, m0, bel⟩
    have H1 := Lib.hid (And.intro r0 (And.intro m0 bel))
    clear r0 l0 m0 bel
    go_wp2_with fail
    refine (S2.out _).mono ?_
    rintro e w2 ⟨p1, c1, B1, rfl, r1, l1, m1, bel⟩
    obtain ⟨k0, k1, k2⟩ := Box3.new bel
    have H2 := Lib.hid (And.intro r1 (And.intro l1 (And.intro m1 bel)))
    have R0 := Lib.hid (ResP.keep (belowAlloc (Below.refl w2.heap.size w2) (.cells #[.slice p1 N c1, .bool CL, .float .f32 CU] 30)) (ResP.keep bel (ResP.keep (belowAlloc (Below.refl _ _) _) H1.out.1)))
    have ll : w1.heap.size < w2.heap.size := by have := World.block_lt_of_cell? _ _ k0; exact this
    clear r1 l1 m1 bel
    go_wp2_with fail
    refine (laws_eqWireA p1 p0 c1 c0 N CU CL P hN _ (ResP.pts (ResP.keep (belowAlloc (Below.refl _ _) _) H2.out.1)) (ResP.pts R0.out)).mono ?_
    rintro e w3 ⟨rfl, bel⟩
    have L3 := Lib.hid (LG.start H1.out.1 H1.out.2.1 H1.out.2.2 H2.out.2.2.2 H2.out.1 H2.out.2.1 H2.out.2.2.1 bel)
    clear k0 k1 k2 bel R0 H1 H2
    obtain ⟨⟨k0, k1, k2⟩, ⟨j0, j1, j2⟩, _⟩ := L3.out
    go_wp2_with fail
    refine (laws_markWire p1 N c1 CU B1 CL P hN _ L3.out.2.2.2.1).mono ?_
    rintro e w4 ⟨rfl, hr, has⟩
    have L4 := Lib.hid (LG.marked has hr L3.out)
    clear k0 k1 k2 j0 j1 j2 has hr
    obtain ⟨⟨k0, k1, k2⟩, ⟨j0, j1, j2⟩, _⟩ := L4.out
    go_wp2_with fail
    refine (laws_heldWire p1 N c1 CU B1 CL hN _ L4.out.2.2.2.1).mono ?_
    rintro e w5 ⟨rfl, bel⟩
    have L5 := Lib.hid (LG.keep bel L4.out)
    clear k0 k1 k2 j0 j1 j2 bel
    obtain ⟨⟨k0, k1, k2⟩, ⟨j0, j1, j2⟩, _⟩ := L5.out
    go_wp2_with fail
    refine (S2.out _).mono ?_
    rintro e w6 ⟨p2, c2, B2, rfl, r2, l2, m2, bel⟩
    have L6 := Lib.hid (LG.keep bel L5.out)
    have H6 := Lib.hid (ResP.pts (ResP.keep (belowAlloc (Below.refl w6.heap.size w6) (.cells #[.slice p2 N c2, .bool CL, .float .f32 CU] 30)) r2))
    have L6a := Lib.hid (LG.keep (belowAlloc (Below.refl w6.heap.size w6) (.cells #[.slice p2 N c2, .bool CL, .float .f32 CU] 30)) L6.out)
    clear k0 k1 k2 j0 j1 j2 bel r2 l2 m2
    obtain ⟨⟨k0, k1, k2⟩, ⟨j0, j1, j2⟩, _⟩ := L6.out
    have ll0 : w1.heap.size < w6.heap.size := World.block_lt_of_cell? _ _ k0
    go_wp2_with fail
    refine (laws_eqWireA p2 p0 c2 c0 N CU CL P hN _ H6.out (ResP.pts L6a.out.2.2.1)).mono ?_
    rintro e w7 ⟨rfl, bel⟩
    have L7 := Lib.hid (LG.keep bel L6a.out)
    clear k0 k1 k2 j0 j1 j2 bel
    obtain ⟨⟨k0, k1, k2⟩, ⟨j0, j1, j2⟩, _⟩ := L7.out
    go_wp2_with fail
    refine (laws_heldWire p1 N c1 CU B1 CL hN _ L7.out.2.2.2.1).mono ?_
    rintro e w8 ⟨rfl, bel⟩
    have L8 := Lib.hid (LG.keep bel L7.out)
    clear k0 k1 k2 j0 j1 j2 bel
    go_wp2_with fail
    go_ret
    exact ⟨rfl, L8.out.2.2.2.2.1⟩

theorem own : ownKnob Try.prog.godebug = none := by kernel_rfl
set_option maxRecDepth 100000 in
theorem lifted (os : Os) (started : os.Started) (H : Type) (enc : TypeId × Value → H) :
    ReturnsInHanded {} Try.checked os 6 .any (Rows.fnExactSquareWireSpec.pre6 enc Try.prog Try.f6 Rows.fnExactSquareWireRow.domain false) (Rows.fnExactSquareWireSpec.post enc Try.prog Try.f6 false true false false) := by
  refine returnsInHanded_of_change (C := Try.checked) own started (by kernel_rfl) Try.func6
    (ChangeSpec.witness6 (enc := enc) (C := Try.checked) false ⟨#[], #[.float .f32 0, .float .f32 0, .float .f32 0], []⟩ 8 (by kernel_rfl) (by kernel_rfl) (by kernel_rfl) (by kernel_rfl)) ?_
  intro W base args ds gs before hval0 hW hcnd _
  have hval : ∀ (j : Nat) t v, Try.f6.params[j]? = some t → args[j]? = some v → Value.okWide Try.prog W .any base t v := hval0
  have hW' := hW
  obtain ⟨p, q, hA0, hV, rfl, hfz, hnd⟩ := hW
  have hA : DataW.TrodAll enc Try.prog W 0 (fun _ => true) true Try.f6.params.toList args.toList ds p := hA0
  rw [Try.params6] at hA hval
  obtain ⟨v0, vs0, d0, ds0, p0, q0, hargs, rfl, rfl, h0, r0⟩ := trodAll_cons hA
  obtain ⟨v1, vs1, d1, ds1, p1, q1, rfl, rfl, rfl, h1, r1⟩ := trodAll_cons r0
  obtain ⟨v2, vs2, d2, ds2, p2, q2, rfl, rfl, rfl, h2, r2⟩ := trodAll_cons r1
  obtain ⟨rfl, rfl, rfl⟩ := trodAll_nil r2
  obtain rfl : args = #[v0, v1, v2] := by cases args; simp_all
  obtain ⟨rfl, rfl⟩ := trodVars_none hV
  obtain ⟨a0, rfl, rfl, rfl, w0⟩ := open_float Try.underlying23 (hval 0 23 v0 rfl rfl) h0
  obtain ⟨a1, rfl, rfl, rfl, w1⟩ := open_float Try.underlying23 (hval 1 23 v1 rfl rfl) h1
  obtain ⟨a2, rfl, rfl, rfl, w2⟩ := open_float Try.underlying23 (hval 2 23 v2 rfl rfl) h2
  clear hA0 hval0
  refine (walk a0 w0 a1 w1 a2 w2 W).mono fun e W' ⟨he, bel⟩ => ?_
  subst he
  exact ⟨_, rfl, _, _, _, [], _, [], hW', trodAll_mk1 (shut_bool Try.underlying4 _), (trodAll_cons_mk (shut_float Try.underlying23 w0) (trodAll_cons_mk (shut_float Try.underlying23 w1) (trodAll_cons_mk (shut_float Try.underlying23 w2) trodAll_mk0))), rfl, bel.frame _, fun h => by cases h⟩

theorem over : Rows.fnExactSquareWireRow.holds Try.pinned (OpenSpec.ofChange Rows.fnExactSquareWireSpec) :=
  OpenClaim.holds_of_wide 6 Try.f6 rfl rfl rfl rfl rfl rfl rfl ⟨rfl, rfl, rfl, rfl, rfl⟩ rfl rfl rfl rfl rfl (by kernel_rfl) Try.func6 (by kernel_rfl)
    (of_decide_eq_true (by kernel_rfl)) (by unfold Func.isWrapper; first | (rw [if_pos (by decide +kernel)]; kernel_rfl) | (rw [if_neg (by decide +kernel)]; exact ⟨rfl, rfl⟩))
    (fun os started H enc _ => lifted os started H enc)

/-- The given statement. -/
theorem proved : Rows.FnExactSquareWireSaid := over
end Go.Proofs.Ytfcniebfoboogaa.fnExactSquareWire
