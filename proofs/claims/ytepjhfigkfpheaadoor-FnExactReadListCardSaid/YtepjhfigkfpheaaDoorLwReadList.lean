/- The given statement FnExactReadList: the program's function and the reference's agree, for every input. Conditions: none beyond the statement's own. -/
import Derived.Test.YtepjhfigkfpheaaDoorRlM
import Derived.Test.YtepjhfigkfpheaaDoorLaidR
import Derived.Test.YtepjhfigkfpheaaDoorLaid
import Derived.Test.YtepjhfigkfpheaaDoorRows
import Derived.ProofKit
import Derived.OpenShut
import Derived.ShutString
import Derived.ChangeOld
import Derived.Below
import Derived.LoopTactic
import Derived.Deep.RegionHeld3
import Derived.Deep.DeepCutAuto
namespace Go.Proofs.YtepjhfigkfpheaaDoor.fnExactReadList
open Go.ChangeShapes Go.WideShapes Go.ChangeAt Go.RowKit
open Go.ChangeMaps (open_string shut_string)
set_option linter.unusedVariables false
set_option maxHeartbeats 9600000 in
theorem walk {W : World} (hT : Tens W ∧ Errs W ∧ MaxL W) (a0 : ByteArray) (w0 : a0.size ≤ maxLen) : Calls Tryd.prog 5 #[.string a0] W fun e w' => e = .returned (.bool true) ∧ Below W.heap.size W w' := by
  obtain ⟨hT, hE, hM⟩ := hT
  by_cases hn : a0.size ≤ 1048576
  · have hS : ∀ w, Calls Tryd.prog 13 #[.string a0] w fun e w' => Nums a0.data.toList w e w' := fun w => spec_ReadList a0 hn w
    have hI : ∀ w, Below W.heap.size W w → Calls Tryd.prog 14 #[.string a0] w fun e w' => Nums a0.data.toList w e w' := fun w hb => impl_ReadList a0 hn w (hT.keep hb) (hE.keep hb) (hM.keep hb)
    cases hq : nums a0.data.toList with
    | none =>
      unfold Nums at hS hI
      rw [hq] at hS hI
      clear hT hE hM
      go_enter Tryd.func5, Tryd.ntmps5
      go_wp2_with fail
      refine (hS _).mono ?_
      rintro e w1 ⟨rfl, hb1⟩
      go_wp2_with fail
      refine (hI _ hb1).mono ?_
      rintro e w2 ⟨rfl, hb2⟩
      have B2 := Lib.hid (belowNext hb1 hb2)
      clear hb1 hb2
      go_wp2_with (go_at_call 10; refine (laws_eqI_nil _ _ _ _ _).mono ?_; rintro e w3 ⟨rfl, m3, rfl⟩)
      go_wp2_with (first | (go_at_call 15; refine (laws_markI_nil _).mono ?_; rintro e w4 ⟨rfl, rfl⟩) | (go_at_call 16; refine (laws_heldI_nil _).mono ?_; rintro e w4 ⟨rfl, rfl⟩))
      refine (hI _ (below_drewN B2.out _)).mono ?_
      rintro e w5 ⟨rfl, hb5⟩
      have B5 := Lib.hid (belowNext (below_drewN B2.out m3) hb5)
      clear hb5
      go_wp2_with (first | (go_at_call 10; refine (laws_eqI_nil _ _ _ _ _).mono ?_; rintro e w3 ⟨rfl, m5, rfl⟩) | (go_at_call 16; refine (laws_heldI_nil _).mono ?_; rintro e w4 ⟨rfl, rfl⟩))
      go_ret
      exact ⟨rfl, below_drewN B5.out _⟩
    | some zs =>
      have hlz := nums_len hq
      unfold Nums at hS hI
      rw [hq] at hS hI
      simp only [intL_of] at hS hI
      generalize hL : (fun j => zs.getD j 0) = L at *
      generalize hN : zs.length = n at *
      clear hT hE hM hL hN hq
      go_enter Tryd.func5, Tryd.ntmps5
      go_wp2_with fail
      refine (hS _).mono ?_
      rintro e w1 ⟨g1, c1, rfl, ho1, hb1⟩
      have S1 := Lib.hid (IS.own ho1)
      have l1 := (ho1.lt g1 rfl).2
      clear ho1
      go_wp2_with fail
      refine (hI _ hb1).mono ?_
      rintro e w2 ⟨g2, c2, rfl, ho2, hb2⟩
      have O2 := Lib.hid ho2
      have l2 := (ho2.lt g2 rfl).1
      have l2' := (ho2.lt g2 rfl).2
      have S2 := Lib.hid (IS.below hb2 l1 S1.out)
      have l12 := lt_below hb2 l1
      have hz1 := hb1.size
      have B2 := Lib.hid (belowNext hb1 hb2)
      clear hb1 hb2 ho2
      go_wp2_with (first
        | (go_at_call 10; refine (laws_eqI g2 0 c2 g1 0 c1 n L L (by omega) _ (IS.own O2.out) S2.out (fun _ _ => rfl)).mono ?_; rintro e w3 ⟨rfl, m3, rfl⟩; have O3 := Lib.hid (ownsBelow O2.out (below_drewN (Below.refl _ _) m3)); have S3 := Lib.hid (IS.below (below_drewN (Below.refl _ _) m3) l12 S2.out))
        | (go_at_call 15; refine (laws_markI _ g2 n c2 L (by omega) _ O3.out).mono ?_; rintro e w4 ⟨rfl, ho4, ha4⟩; have O4 := Lib.hid ho4; have B4 := Lib.hid (Aside.below (below_drewN B2.out m3) ha4 (by omega) (below_drewN B2.out m3).size); have S4 : Hid (IS w4 g1 0 n L) := Lib.hid (fun i hi => ha4.cell (S3.out i hi) (by omega)); have l14 : g1 < w4.heap.size := Nat.lt_of_lt_of_le l12 ha4.size; have l24 : g2 < w4.heap.size := Nat.lt_of_lt_of_le l2' ha4.size; clear ho4 ha4)
        | (go_at_call 16; refine (laws_heldI g2 n c2 (by omega) _ (IS.own O4.out)).mono ?_; rintro e w5 ⟨rfl, rfl⟩))
      refine (hI _ B4.out).mono ?_
      rintro e w5 ⟨g5, c5, rfl, ho5, hb5⟩
      have S5 := Lib.hid (IS.below hb5 l14 S4.out)
      have H5 := Lib.hid (IS.below hb5 l24 (IS.own O4.out))
      have l25 := lt_below hb5 l24
      have O5 := Lib.hid (IS.own ho5)
      have B5 := Lib.hid (belowNext B4.out hb5)
      clear ho5 hb5
      go_wp2_with (first
        | (go_at_call 10; refine (laws_eqI g5 0 c5 g1 0 c1 n L L (by omega) _ O5.out S5.out (fun _ _ => rfl)).mono ?_; rintro e w6 ⟨rfl, m6, rfl⟩; have H6 := Lib.hid (IS.below (below_drewN (Below.refl _ _) m6) l25 H5.out))
        | (go_at_call 16; refine (laws_heldI g2 n c2 (by omega) _ H6.out).mono ?_; rintro e w7 ⟨rfl, rfl⟩))
      go_ret
      exact ⟨rfl, below_drewN B5.out _⟩
  · go_enter Tryd.func5, Tryd.ntmps5
    go_wp2
    go_ret
    exact ⟨rfl, Below.refl _ _⟩

set_option maxRecDepth 100000 in
theorem lifted (os : Os) (started : os.Started) (H : Type) (enc : TypeId × Value → H) :
    ReturnsInHanded {} Tryd.checked os 5 .any (fun w args => (Rows.fnExactReadListSpec.pre enc Tryd.prog Tryd.f5 [] false w args ∧ laidMetH Tryd.prog Rows.fnExactReadListRow.laid w) ∧ sizedMet enc Tryd.prog Tryd.f5 (OpenSpec.ofChange Rows.fnExactReadListSpec) false w args) (Rows.fnExactReadListSpec.post enc Tryd.prog Tryd.f5 false true false false) := by
  refine handed_shaped (C := Tryd.checked) (X := fun w _ => laidMetH Tryd.prog Rows.fnExactReadListRow.laid w) (fun _ _ _ hh h => h.of_heap hh) own started (by kernel_rfl) Tryd.func5
    (ChangeSpec.witness_shaped (enc := enc) (C := Tryd.checked) (os := os) (X := fun w _ => laidMetH Tryd.prog Rows.fnExactReadListRow.laid w) false (laidR os) #[.string ByteArray.empty] 8 rfl (World.shaped_of_RefB (by kernel_rfl) (by kernel_rfl)) (by kernel_rfl) (by kernel_rfl) (by kernel_rfl) (fnExactReadList_met os _)) ?_
  intro W base args ds gs before hval0 hW hcnd _ hL hSh
  have hval : ∀ (j : Nat) t v, Tryd.f5.params[j]? = some t → args[j]? = some v → Value.okWide Tryd.prog W .any base t v := hval0
  have hW' := hW
  obtain ⟨p, q, hA0, hV, rfl, hfz, hnd⟩ := hW
  have hA : DataW.TrodAll enc Tryd.prog W 0 (fun _ => true) true Tryd.f5.params.toList args.toList ds p := hA0
  rw [Tryd.params5] at hA hval
  obtain ⟨v0, vs0, d0, ds0, p0, q0, hargs, rfl, rfl, h0, r0⟩ := trodAll_cons hA
  obtain ⟨rfl, rfl, rfl⟩ := trodAll_nil r0
  obtain rfl : args = #[v0] := by cases args; simp_all
  obtain ⟨rfl, rfl⟩ := trodVars_none hV
  obtain ⟨a0, rfl, rfl, rfl, w0⟩ := open_string Tryd.underlying9 (hval 0 9 v0 rfl rfl) h0
  clear hA0 hval0
  refine (walk (fnExactReadList_laid hL hSh) a0 w0).mono fun e W' ⟨he, bel⟩ => ?_
  subst he
  exact ⟨_, rfl, _, _, _, [], _, [], hW', trodAll_mk1 (shut_bool Tryd.underlying4 _), (trodAll_cons_mk (shut_string Tryd.underlying9 w0) trodAll_mk0), rfl, bel.frame _, fun h => by cases h⟩

theorem over : Rows.fnExactReadListRow.holds Tryd.pinned (OpenSpec.ofChange Rows.fnExactReadListSpec) :=
  OpenClaim.holds_of_wide 5 Tryd.f5 rfl rfl rfl rfl rfl rfl rfl ⟨rfl, rfl, rfl, rfl, rfl⟩ rfl rfl rfl rfl rfl (by kernel_rfl) Tryd.func5 (by kernel_rfl)
    (of_decide_eq_true (by kernel_rfl)) (by unfold Func.isWrapper; first | (rw [if_pos (by decide +kernel)]; kernel_rfl) | (rw [if_neg (by decide +kernel)]; exact ⟨rfl, rfl⟩))
    (fun os started H enc _ => lifted os started H enc)
/-- The given statement: the row's card, its listed variables tied to the program's text. -/
theorem proved : Rows.FnExactReadListCardSaid :=
  Claim7.holds_tied_plain_at .later [] _ true _ true over (fun _ h => by cases h) (by kernel_rfl) (fun _ h => by cases h) fnExactReadList_row_tie rfl ⟨rfl, rfl⟩ (by kernel_rfl) rfl
    (fun f fn hf hfn => by
      obtain rfl : f = 5 := Option.some.inj ((show Tryd.prog.funcNamed "loop.example/g01237/laws.FnExactReadList" = some 5 by kernel_rfl).symm.trans hf) |>.symm
      obtain rfl : fn = Tryd.f5 := (Option.some.inj (Tryd.func5.symm.trans hfn)).symm
      exact ⟨by kernel_rfl, fun j t ht => by
        rw [Tryd.params5] at ht
        have hm : t ∈ [9] := by simpa using Array.mem_of_getElem? ht
        have hall : ([9].all fun u => !Tryd.prog.wantsStandIn u) = true := by kernel_rfl
        exact (show Tryd.prog.wantsStandIn t = false by simpa using List.all_eq_true.1 hall t hm)⟩)
    (by kernel_rfl)
end Go.Proofs.YtepjhfigkfpheaaDoor.fnExactReadList
