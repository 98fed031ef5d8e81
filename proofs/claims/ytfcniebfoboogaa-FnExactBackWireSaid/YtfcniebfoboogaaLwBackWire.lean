/- The given statement FnExactBackWire: the program's function and the reference's agree, for every input. Conditions: none beyond the statement's own. -/
import Derived.Test.YtfcniebfoboogaaBacj
import Derived.Test.YtfcniebfoboogaaHold
import Derived.Test.YtfcniebfoboogaaOpen
import Derived.Test.YtfcniebfoboogaaRows
import Derived.ProofKit
import Derived.OpenShut
import Derived.ShutString
import Derived.ChangeOld
import Derived.Below
import Derived.LoopTactic
import Derived.Deep.RegionHeld3
import Derived.Deep.DeepCutAuto
namespace Go.Proofs.Ytfcniebfoboogaa.fnExactBackWire
open Go.ChangeShapes Go.WideShapes Go.ChangeAt Go.RowKit
open Go.ChangeMaps (open_string shut_string)
set_option linter.unusedVariables false
set_option maxHeartbeats 3200000 in
theorem walk (W : World) (a0 : Value) (w0 : Is_W a0 W) : Calls Try.prog 10 #[a0] W fun e w' => e = .returned (.bool true) ∧ Below W.heap.size W w' := by
  obtain ⟨a, n, c, cl, cu, P, rfl, hnm, hA, _, _⟩ := w0
  have HA := Lib.hid hA
  clear hA
  by_cases hn : n ≤ 1048576
  · have hpos : decide ((1048576 : Int) - (n : Int) < 0) = false := decide_eq_false (by omega)
    have hN : gN (validB P n cu) n ≤ 1048576 := gN_le fun _ => hn
    have S1 := Lib.hid (fun (X : Nat) (w : World) (h : VS w X 0 n P) => spec_BackWire X 0 n n cu cl P hnm w h)
    have S2 := Lib.hid (fun (X : Nat) (w : World) (h : VS w X 0 n P) => impl_BackWire X 0 n n cu cl P hnm w h)
    generalize gN (validB P n cu) n = N at *
    generalize gC (validB P n cu) cl = CL at *
    generalize gN (validB P n cu) cu = CU at *
    generalize validB P n cu = FL at *
    generalize revP P n = R at *
    have neg : decide ((N : Int) * 3 + 1 < 0) = false := decide_eq_false (by omega)
    have nn : (((N : Int) * 3 + 1) != ((N : Int) * 3 + 1)) = false := by simp
    have negn : decide ((n : Int) * 3 + 1 < 0) = false := decide_eq_false (by omega)
    cases FL
    all_goals
      go_enter Try.func10, Try.ntmps10
      go_wp2_with fail
      refine (laws_szWire a n c cu cl hn _).mono ?_
      rintro e w1 ⟨rfl, bel⟩
      obtain ⟨k0, k1, k2⟩ := Box3.new bel
      have A1 := Lib.hid (PtsB.keep bel (PtsB.keep (belowAlloc (Below.refl _ _) _) (PtsB.of HA.out)))
      have W1 := Lib.hid (belowNext (belowAlloc (Below.refl W.heap.size W) _) bel)
      have l1 : W.heap.size < w1.heap.size := World.block_lt_of_cell? _ _ k0
      clear bel
      go_wp2_with fail
      refine (laws_toWireA a n c cu cl P hn _ (A1.out.pts (Nat.le_of_lt l1))).mono ?_
      rintro e w2 ⟨X0, rfl, row, hX0, bel⟩
      have V2 := Lib.hid (VS.row (P := P) row)
      have K2 := Lib.hid (Box3.keep bel ⟨k0, k1, k2⟩)
      have A2 := Lib.hid (A1.out.keep bel)
      have W2 := Lib.hid (belowNext W1.out bel)
      have l2 : W.heap.size < w2.heap.size := Nat.lt_of_lt_of_le l1 bel.size
      clear bel row hX0 k0 k1 k2
      go_wp2_with fail
      refine (S1.out X0 _ V2.out).mono ?_
      rintro e w3 ⟨p0, c0, B0, rfl, r0, l0, m0, bel⟩
      have K3 := Lib.hid (K2.out.keep bel)
      have A3 := Lib.hid (A2.out.keep bel)
      have W3 := Lib.hid (belowNext W2.out bel)
      have R3 := Lib.hid (And.intro r0 m0)
      have lB : W.heap.size < B0 := Nat.lt_of_lt_of_le l2 l0
      obtain ⟨k0, k1, k2⟩ := K3.out
      have l3 : W.heap.size < w3.heap.size := World.block_lt_of_cell? _ _ k0
      clear bel r0 l0 m0 K2 A2 W2 V2 A1 W1
      go_wp2_with fail
      refine (laws_toWireA a n c cu cl P hn _ (PtsB.pts (PtsB.keep (belowAlloc (Below.refl _ _) _) A3.out) (Nat.le_trans (Nat.le_of_lt l3) (belowAlloc (Below.refl _ _) _).size))).mono ?_
      rintro e w4 ⟨X, rfl, row, hX, bel⟩
      have L4 := Lib.hid (LB.start K3.out A3.out lB R3.out.1 R3.out.2 W3.out bel row hX)
      clear bel row hX k0 k1 k2 K3 A3 W3 R3
      obtain ⟨⟨k0, k1, k2⟩, _, ⟨j0, j1, j2⟩, _⟩ := L4.out
      have l4 : w3.heap.size < w4.heap.size := World.block_lt_of_cell? _ _ j0
      go_wp2_with fail
      refine (S2.out X _ (L4.out.keep (belowAlloc (Below.refl _ _) _)).2.2.2.2.1.vs).mono ?_
      rintro e w5 ⟨p1, c1, B1, rfl, r1, l5, m1, bel⟩
      have H5 := Lib.hid (And.intro r1 (And.intro l5 (And.intro m1 bel)))
      have L5 := Lib.hid ((L4.out.keep (belowAlloc (Below.refl _ _) _)).keep bel)
      have j5 := Box3.new bel
      clear k0 k1 k2 j0 j1 j2 bel r1 l5 m1
      obtain ⟨⟨k0, k1, k2⟩, _, ⟨j0, j1, j2⟩, _⟩ := L5.out
      obtain ⟨i0, i1, i2⟩ := j5
      have l5 : w3.heap.size < w5.heap.size := World.block_lt_of_cell? _ _ j0
      have l5' : w4.heap.size < w5.heap.size := World.block_lt_of_cell? _ _ i0
      go_wp2_with fail
      refine (laws_eqWireA p1 p0 c1 c0 N CU CL R hN _ (ResP.pts (ResP.keep (belowAlloc (Below.refl _ _) _) H5.out.1)) (ResP.pts (L5.out.keep (belowAlloc (Below.refl _ _) _)).2.2.2.1)).mono ?_
      rintro e w6 ⟨rfl, bel⟩
      have L6 := Lib.hid (LM.start L4.out H5.out.2.2.2 H5.out.1 H5.out.2.1 H5.out.2.2.1 bel)
      clear k0 k1 k2 j0 j1 j2 i0 i1 i2 bel L4 L5 H5
      have S6 := L6.out.shown
      clear L6
      go_wp2_with fail
      go_region_held3 (fun w' => LS W a n c cu cl P P X w4.heap.size N CL CU R R p0 c0 B0 w3.heap.size p1 c1 B1 w5.heap.size w') (with_reducible (first | exact S6 | exact LS.drew S6 | exact LS.keep hb (by assumption) | exact LS.keep hb (LS.drew S6)))
        (first
          | (go_at_call 17; refine (laws_toWireA a n c cu cl P hn _ (LA.pts (LS.whole (by assumption)).1)).mono ?_; rintro e w7 ⟨Y, rfl, row, hY, hb⟩; have hYH := Lib.hid (NewP.row (P := P) row); clear row)
          | (go_at_call 19; refine (LM.eqCopy hn (LS.whole (by assumption)) hYH).mono ?_; rintro e w8 ⟨rfl, hb⟩))
      have L8 := Lib.hid (LS.whole (show LS W a n c cu cl P P X w4.heap.size N CL CU R R p0 c0 B0 w3.heap.size p1 c1 B1 w5.heap.size w8 by assumption))
      clear hb hYH S6
      obtain ⟨⟨_, _, ⟨x0, x1, x2⟩, _⟩, _⟩ := L8.out
      go_wp2_with fail
      refine (laws_markWire (some ⟨X, 0, none⟩) n n cu X cl P hn _ (.inr ⟨rfl, L8.out.1.2.2.2.1⟩)).mono ?_
      rintro e w9 ⟨rfl, hr, has⟩
      have L9 := Lib.hid (LM.markX has hr.whole L8.out)
      clear hr has x0 x1 x2 L8
      obtain ⟨_, ⟨⟨k0, k1, k2⟩, ⟨j0, j1, j2⟩, _⟩, _⟩ := L9.out
      go_wp2_with fail
      refine (laws_eqWireA p1 p0 c1 c0 N CU CL R hN _ (ResP.pts L9.out.2.1.2.2.2.1) (ResP.pts L9.out.2.1.2.2.1)).mono ?_
      rintro e w10 ⟨rfl, bel⟩
      have L10 := Lib.hid (LM.keep bel L9.out)
      clear k0 k1 k2 j0 j1 j2 bel L9
      obtain ⟨_, ⟨⟨k0, k1, k2⟩, ⟨j0, j1, j2⟩, _⟩, _⟩ := L10.out
      go_wp2_with fail
      refine (laws_markWire p1 N c1 CU B1 CL R hN _ L10.out.2.1.2.2.2.1).mono ?_
      rintro e w11 ⟨rfl, hr, has⟩
      have L11 := Lib.hid (LM.markG has hr L10.out)
      clear k0 k1 k2 j0 j1 j2 hr has L10
      obtain ⟨_, ⟨⟨k0, k1, k2⟩, ⟨j0, j1, j2⟩, _⟩, _⟩ := L11.out
      go_wp2_with fail
      refine (laws_heldWire p1 N c1 CU B1 CL hN _ L11.out.2.1.2.2.2.1).mono ?_
      rintro e w12 ⟨rfl, bel⟩
      have L12 := Lib.hid (LM.keep bel L11.out)
      clear k0 k1 k2 j0 j1 j2 bel L11
      obtain ⟨⟨⟨x0, x1, x2⟩, _⟩, _⟩ := L12.out
      go_wp2_with fail
      refine (laws_toWireA a n c cu cl P hn _ L12.out.1.pts).mono ?_
      rintro e w13 ⟨Y, rfl, row, hY, bel⟩
      have V13 := Lib.hid (VS.row (P := P) row)
      have L13 := Lib.hid (LM.keep bel L12.out)
      clear bel row hY x0 x1 x2 L12
      go_wp2_with fail
      refine (S2.out Y _ V13.out).mono ?_
      rintro e w14 ⟨p2, c2, B2, rfl, r2, l14, m2, bel⟩
      have L14 := Lib.hid (LM.keep bel L13.out)
      have H14 := Lib.hid (ResP.pts (ResP.keep (belowAlloc (Below.refl w14.heap.size w14) (.cells #[.slice p2 N c2, .bool CL, .float .f32 CU] 30)) r2))
      have L14a := Lib.hid (LM.keep (belowAlloc (Below.refl w14.heap.size w14) (.cells #[.slice p2 N c2, .bool CL, .float .f32 CU] 30)) L14.out)
      clear bel r2 l14 m2 V13 L13
      obtain ⟨_, ⟨⟨k0, k1, k2⟩, ⟨j0, j1, j2⟩, _⟩, _⟩ := L14.out
      have ll0 : w3.heap.size < w14.heap.size := World.block_lt_of_cell? _ _ k0
      have ll1 : w5.heap.size < w14.heap.size := World.block_lt_of_cell? _ _ j0
      go_wp2_with fail
      refine (laws_eqWireA p2 p0 c2 c0 N CU CL R hN _ H14.out (ResP.pts L14a.out.2.1.2.2.1)).mono ?_
      rintro e w15 ⟨rfl, bel⟩
      have L15 := Lib.hid (LM.keep bel L14a.out)
      clear k0 k1 k2 j0 j1 j2 bel L14 L14a H14
      obtain ⟨_, ⟨⟨k0, k1, k2⟩, ⟨j0, j1, j2⟩, _⟩, _⟩ := L15.out
      go_wp2_with fail
      refine (laws_heldWire p1 N c1 CU B1 CL hN _ L15.out.2.1.2.2.2.1).mono ?_
      rintro e w16 ⟨rfl, bel⟩
      have L16 := Lib.hid (LM.keep bel L15.out)
      clear k0 k1 k2 j0 j1 j2 bel L15
      go_wp2_with fail
      go_ret
      exact ⟨rfl, L16.out.2.1.2.2.2.2.1⟩
  · have hneg : decide ((1048576 : Int) - (n : Int) < 0) = true := decide_eq_true (by omega)
    go_enter Try.func10, Try.ntmps10
    go_wp2_with fail
    refine (laws_szWire_no a n c cu cl hn hnm _).mono ?_
    rintro e w1 ⟨rfl, bel⟩
    go_wp2_with fail
    go_ret
    exact ⟨rfl, belowNext (belowAlloc (Below.refl W.heap.size W) _) bel⟩

theorem own : ownKnob Try.prog.godebug = none := by kernel_rfl
theorem laidOut : laidOutB Try.prog = true := by kernel_rfl
set_option maxRecDepth 100000 in
theorem lifted (os : Os) (started : os.Started) (H : Type) (enc : TypeId × Value → H) :
    ReturnsInHanded {} Try.checked os 10 .any (Rows.fnExactBackWireSpec.pre6 enc Try.prog Try.f10 Rows.fnExactBackWireRow.domain false) (Rows.fnExactBackWireSpec.post enc Try.prog Try.f10 false true false false) := by
  refine returnsInHanded_of_change (C := Try.checked) own started (by kernel_rfl) Try.func10
    (ChangeSpec.witness6 (enc := enc) (C := Try.checked) false ⟨#[], #[.agg #[.slice none 0 0, .bool false, .float .f32 0]], []⟩ 8 (by kernel_rfl) (by kernel_rfl) (by kernel_rfl) (by kernel_rfl)) ?_
  intro W base args ds gs before hval0 hW hcnd _
  have hval : ∀ (j : Nat) t v, Try.f10.params[j]? = some t → args[j]? = some v → Value.okWide Try.prog W .any base t v := hval0
  have hW' := hW
  obtain ⟨p, q, hA0, hV, rfl, hfz, hnd⟩ := hW
  have hA : DataW.TrodAll enc Try.prog W 0 (fun _ => true) true Try.f10.params.toList args.toList ds p := hA0
  rw [Try.params10] at hA hval
  obtain ⟨v0, vs0, d0, ds0, p0, q0, hargs, rfl, rfl, h0, r0⟩ := trodAll_cons hA
  obtain ⟨rfl, rfl, rfl⟩ := trodAll_nil r0
  obtain rfl : args = #[v0] := by cases args; simp_all
  obtain ⟨rfl, rfl⟩ := trodVars_none hV
  have k0 := h0
  have lt0 : ∀ x ∈ p0, x.block < W.heap.size := by obtain ⟨m, hm⟩ := k0; exact DataW.trod_lt m _ _ _ hm
  obtain ⟨a0, rfl, w0⟩ := opened_W (hval 0 25 v0 rfl rfl) h0
  clear hA0 hval0
  refine (walk W a0 w0).mono fun e W' ⟨he, bel⟩ => ?_
  subst he
  exact ⟨_, rfl, _, _, _, [], _, [], hW', trodAll_mk1 (shut_bool Try.underlying4 _), (trodAll_cons_mk (Below.trod laidOut (by kernel_rfl) (of_decide_eq_true (by kernel_rfl)) k0 bel lt0) trodAll_mk0), rfl, bel.frame _, fun h => by cases h⟩

theorem over : Rows.fnExactBackWireRow.holds Try.pinned (OpenSpec.ofChange Rows.fnExactBackWireSpec) :=
  OpenClaim.holds_of_wide 10 Try.f10 rfl rfl rfl rfl rfl rfl rfl ⟨rfl, rfl, rfl, rfl, rfl⟩ rfl rfl rfl rfl rfl (by kernel_rfl) Try.func10 (by kernel_rfl)
    (of_decide_eq_true (by kernel_rfl)) (by unfold Func.isWrapper; first | (rw [if_pos (by decide +kernel)]; kernel_rfl) | (rw [if_neg (by decide +kernel)]; exact ⟨rfl, rfl⟩))
    (fun os started H enc _ => lifted os started H enc)

/-- The given statement. -/
theorem proved : Rows.FnExactBackWireSaid := over
end Go.Proofs.Ytfcniebfoboogaa.fnExactBackWire
