/- The given statement FnExactListText: the program's function and the reference's agree, for every input. Conditions: none beyond the statement's own. -/
import Derived.Test.YtepjhfigkfpheaaDoorLtI
import Derived.Test.YtepjhfigkfpheaaDoorLaid
import Derived.Test.YtepjhfigkfpheaaDoorLaid
import Derived.Test.YtepjhfigkfpheaaDoorRows
import Derived.ProofKit
import Derived.OpenShut
import Derived.ShutString
import Derived.ChangeOld
import Derived.Below
import Derived.LoopTactic
import Derived.Deep.RegionHeld3
import Derived.Deep.DeepCutAuto
namespace Go.Proofs.YtepjhfigkfpheaaDoor.fnExactListText
open Go.ChangeShapes Go.WideShapes Go.ChangeAt Go.RowKit
open Go.ChangeMaps (open_string shut_string)
set_option linter.unusedVariables false
set_option maxHeartbeats 9600000 in
theorem walk {W : World} (hT : Tens W) (a0 : Value) (w0 : Is_I a0 W) : Calls Tryd.prog 3 #[a0] W fun e w' => e = .returned (.bool true) ∧ Below W.heap.size W w' := by
  rcases w0 with ⟨ad0, c0, rfl⟩ | ⟨b0, o0, n0, c0, L0, rfl, h1, hb0, hnc0, hcm0, hc0⟩
  · have B0 : Hid (Below W.heap.size W W) := Lib.hid (Below.refl _ _)
    have T0 := Lib.hid hT
    clear hT
    go_enter Tryd.func3, Tryd.ntmps3
    go_wp2_with fail
    refine (laws_toI_nil _ _ _).mono ?_
    rintro e w1 ⟨rfl, row1, bel1⟩
    have B1 := Lib.hid bel1
    clear row1 bel1
    go_wp2_with fail
    refine (spec_ListText_nil _ _ _).mono ?_
    rintro e w2 ⟨rfl, bel2⟩
    have B2 := Lib.hid (belowNext B1.out bel2)
    clear bel2
    go_wp2_with fail
    refine (laws_toI_nil _ _ _).mono ?_
    rintro e w3 ⟨rfl, row3, bel3⟩
    have B3 := Lib.hid (belowNext B2.out bel3)
    clear row3 bel3
    go_wp2_with fail
    refine (impl_ListText_nil _ _ _).mono ?_
    rintro e w4 ⟨rfl, bel4⟩
    have B4 := Lib.hid (belowNext B3.out bel4)
    clear bel4
    go_wp2_with fail
    refine (laws_toI_nil _ _ _).mono ?_
    rintro e w5 ⟨rfl, row5, bel5⟩
    have B5 := Lib.hid (belowNext B4.out bel5)
    clear row5 bel5
    go_wp2_with fail
    refine (laws_eqI_nil _ _ _ _ _).mono ?_
    rintro e wx ⟨rfl, m3, rfl⟩
    go_wp2_with fail
    go_ret
    exact ⟨rfl, below_drewN B5.out _⟩
  · by_cases hn : n0 ≤ 1048576
    · have A0 := Lib.hid hc0
      have T0 := Lib.hid hT
      clear hT hc0
      go_enter Tryd.func3, Tryd.ntmps3
      go_wp2_with fail
      refine (laws_toI b0 o0 n0 c0 L0 hn _ A0.out hb0).mono ?_
      rintro e w1 ⟨rfl, row1, bel1⟩
      have l1 := lt_below bel1 hb0
      have A1 := Lib.hid (IS.below bel1 hb0 A0.out)
      have P1 := Lib.hid (IS.row (L := L0) row1)
      have lP1 := row1.lt
      have B1 := Lib.hid bel1
      clear row1 bel1
      go_wp2_with fail
      refine (spec_ListText _ 0 n0 n0 L0 h1 hn _ P1.out lP1).mono ?_
      rintro e w2 ⟨rfl, bel2⟩
      have l2 := lt_below bel2 l1
      have A2 := Lib.hid (IS.below bel2 l1 A1.out)
      have B2 := Lib.hid (belowNext B1.out bel2)
      clear bel2
      go_wp2_with fail
      refine (laws_toI b0 o0 n0 c0 L0 hn _ A2.out l2).mono ?_
      rintro e w3 ⟨rfl, row3, bel3⟩
      have l3 := lt_below bel3 l2
      have A3 := Lib.hid (IS.below bel3 l2 A2.out)
      have Q3 := Lib.hid (IS.row (L := L0) row3)
      have lQ3 := row3.lt
      have B3 := Lib.hid (belowNext B2.out bel3)
      clear row3 bel3
      have hI : Calls Tryd.prog 9 #[.slice (some ⟨w2.heap.size, 0, none⟩) n0 n0] w3 fun e w' => e = .returned (.tuple #[.string (ltS L0 n0), .bool (okL L0 n0)]) ∧ Below w3.heap.size w3 w' := by
        by_cases h64 : n0 ≤ 64
        · exact impl_ListText _ 0 n0 n0 L0 h1 h64 _ Q3.out lQ3 (T0.out.keep B3.out)
        · have e1 := okL_long (L := L0) (n := n0) (by omega)
          have e2 : ltS L0 n0 = ⟨#[]⟩ := by unfold ltS; rw [e1, if_neg (by simp)]
          rw [e1, e2]
          exact impl_ListText_long _ n0 n0 (by omega) hn _
      go_wp2_with fail
      refine hI.mono ?_
      rintro e w4 ⟨rfl, bel4⟩
      have l4 := lt_below bel4 l3
      have A4 := Lib.hid (IS.below bel4 l3 A3.out)
      have Q4 := Lib.hid (IS.below bel4 lQ3 Q3.out)
      have lQ4 := lt_below bel4 lQ3
      have B4 := Lib.hid (belowNext B3.out bel4)
      clear bel4 hI
      go_wp2_with fail
      refine (laws_toI b0 o0 n0 c0 L0 hn _ A4.out l4).mono ?_
      rintro e w5 ⟨rfl, row5, bel5⟩
      have Q5 := Lib.hid (IS.below bel5 lQ4 Q4.out)
      have R5 := Lib.hid (IS.row (L := L0) row5)
      have B5 := Lib.hid (belowNext B4.out bel5)
      clear row5 bel5
      go_wp2_with fail
      refine (laws_eqI _ 0 _ _ 0 _ n0 L0 L0 hn _ Q5.out R5.out (fun _ _ => rfl)).mono ?_
      rintro e wx ⟨rfl, m3, rfl⟩
      go_wp2_with fail
      go_ret
      exact ⟨rfl, below_drewN B5.out _⟩
    · clear hc0
      go_enter Tryd.func3, Tryd.ntmps3
      go_wp2_with fail
      go_ret
      exact ⟨rfl, Below.refl _ _⟩

theorem laidOut : laidOutB Tryd.prog = true := by kernel_rfl
set_option maxRecDepth 100000 in
theorem lifted (os : Os) (started : os.Started) (H : Type) (enc : TypeId × Value → H) :
    ReturnsInHanded {} Tryd.checked os 3 .any (fun w args => (Rows.fnExactListTextSpec.pre enc Tryd.prog Tryd.f3 [] false w args ∧ laidMetH Tryd.prog Rows.fnExactListTextRow.laid w) ∧ sizedMet enc Tryd.prog Tryd.f3 (OpenSpec.ofChange Rows.fnExactListTextSpec) false w args) (Rows.fnExactListTextSpec.post enc Tryd.prog Tryd.f3 false true false false) := by
  refine returnsInHanded_of_change_and (C := Tryd.checked) (X := fun w _ => laidMetH Tryd.prog Rows.fnExactListTextRow.laid w) (fun _ _ _ hh h => h.of_heap hh) own started (by kernel_rfl) Tryd.func3
    (ChangeSpec.witness_shaped (enc := enc) (C := Tryd.checked) (os := os) (X := fun w _ => laidMetH Tryd.prog Rows.fnExactListTextRow.laid w) false (laidW os) #[.slice none 0 0] 8 rfl (World.shaped_of_RefB (by kernel_rfl) (by kernel_rfl)) (by kernel_rfl) (by kernel_rfl) (by kernel_rfl) (fnExactListText_met os _)) ?_
  intro W base args ds gs before hval0 hW hcnd _ hL _
  have hval : ∀ (j : Nat) t v, Tryd.f3.params[j]? = some t → args[j]? = some v → Value.okWide Tryd.prog W .any base t v := hval0
  have hW' := hW
  obtain ⟨p, q, hA0, hV, rfl, hfz, hnd⟩ := hW
  have hA : DataW.TrodAll enc Tryd.prog W 0 (fun _ => true) true Tryd.f3.params.toList args.toList ds p := hA0
  rw [Tryd.params3] at hA hval
  obtain ⟨v0, vs0, d0, ds0, p0, q0, hargs, rfl, rfl, h0, r0⟩ := trodAll_cons hA
  obtain ⟨rfl, rfl, rfl⟩ := trodAll_nil r0
  obtain rfl : args = #[v0] := by cases args; simp_all
  obtain ⟨rfl, rfl⟩ := trodVars_none hV
  have k0 := h0
  have lt0 : ∀ x ∈ p0, x.block < W.heap.size := by obtain ⟨m, hm⟩ := k0; exact DataW.trod_lt m _ _ _ hm
  obtain ⟨a0, rfl, w0⟩ := opened_I (hval 0 22 v0 rfl rfl) h0
  clear hA0 hval0
  refine (walk (fnExactListText_laid hL) a0 w0).mono fun e W' ⟨he, bel⟩ => ?_
  subst he
  exact ⟨_, rfl, _, _, _, [], _, [], hW', trodAll_mk1 (shut_bool Tryd.underlying4 _), (trodAll_cons_mk (Below.trod laidOut (by kernel_rfl) (of_decide_eq_true (by kernel_rfl)) k0 bel lt0) trodAll_mk0), rfl, bel.frame _, fun h => by cases h⟩

theorem over : Rows.fnExactListTextRow.holds Tryd.pinned (OpenSpec.ofChange Rows.fnExactListTextSpec) :=
  OpenClaim.holds_of_wide 3 Tryd.f3 rfl rfl rfl rfl rfl rfl rfl ⟨rfl, rfl, rfl, rfl, rfl⟩ rfl rfl rfl rfl rfl (by kernel_rfl) Tryd.func3 (by kernel_rfl)
    (of_decide_eq_true (by kernel_rfl)) (by unfold Func.isWrapper; first | (rw [if_pos (by decide +kernel)]; kernel_rfl) | (rw [if_neg (by decide +kernel)]; exact ⟨rfl, rfl⟩))
    (fun os started H enc _ => lifted os started H enc)
/-- The given statement: the row's card, its listed variables tied to the program's text. -/
theorem proved : Rows.FnExactListTextCardSaid :=
  Claim7.holds_tied_plain_at .later [] _ true _ true over (fun _ h => by cases h) (by kernel_rfl) (fun _ h => by cases h) fnExactListText_row_tie rfl ⟨rfl, rfl⟩ (by kernel_rfl) rfl
    (fun f fn hf hfn => by
      obtain rfl : f = 3 := Option.some.inj ((show Tryd.prog.funcNamed "loop.example/g01237/laws.FnExactListText" = some 3 by kernel_rfl).symm.trans hf) |>.symm
      obtain rfl : fn = Tryd.f3 := (Option.some.inj (Tryd.func3.symm.trans hfn)).symm
      exact ⟨by kernel_rfl, fun j t ht => by
        rw [Tryd.params3] at ht
        have hm : t ∈ [22] := by simpa using Array.mem_of_getElem? ht
        have hall : ([22].all fun u => !Tryd.prog.wantsStandIn u) = true := by kernel_rfl
        exact (show Tryd.prog.wantsStandIn t = false by simpa using List.all_eq_true.1 hall t hm)⟩)
    (by kernel_rfl)
end Go.Proofs.YtepjhfigkfpheaaDoor.fnExactListText
