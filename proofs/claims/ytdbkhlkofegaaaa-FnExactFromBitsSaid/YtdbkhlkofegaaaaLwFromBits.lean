/- The given statement FnExactFromBits: the program's function and the reference's agree, for every input. Conditions: none beyond the statement's own. -/
import Derived.Test.YtdbkhlkofegaaaaText
import Derived.Test.YtdbkhlkofegaaaaVec
import Derived.Test.YtdbkhlkofegaaaaOpen
import Derived.Test.YtdbkhlkofegaaaaRows
import Derived.ProofKit
import Derived.OpenShut
import Derived.ShutString
import Derived.ChangeOld
import Derived.Below
import Derived.LoopTactic
import Derived.Deep.RegionHeld3
namespace Go.Proofs.Ytdbkhlkofegaaaa.fnExactFromBits
open Go.ChangeShapes Go.WideShapes Go.ChangeAt Go.RowKit
open Go.ChangeMaps (open_string shut_string)
set_option linter.unusedVariables false
theorem walk (a0 : Int) (w0 : (Lit.int .i64 a0).wf = true) (W : World) : Calls Try.prog 12 #[.int .i64 a0] W fun e w' => e = .returned (.bool true) ∧ Below W.heap.size W w' := by
  by_cases hr : 0 ≤ a0 ∧ a0 ≤ 4294967295
  · obtain ⟨r0, r1⟩ := hr
    have hb := inB_yes r0 r1
    go_enter Try.func12, Try.ntmps12
    go_wp2_with (first | (refine wpList_wide some32 Try.underlying25 rfl rfl rfl ?_; intro _ _ _) | (go_at_call 32; go_in) | (go_at_call 33; go_in) | (go_at_call 47; go_in) | (go_at_call 43; refine (spec_l00In _ _ _ _).mono ?_; rintro e w' ⟨rfl, rfl⟩) | (go_at_call 45; refine (impl_within _ _ _ _).mono ?_; rintro e w' ⟨rfl, rfl⟩) | (go_at_call 18; refine (sameFloat_of (by assumption) (by assumption) (Same.refl _ _) (Same.refl _ _) _).mono ?_; rintro e w' ⟨rfl, n, rfl⟩))
    go_ret
    refine ⟨rfl, ?_⟩
    (repeat' (first | exact Below.refl _ _ | refine below_drewN ?_ _ | refine Below.alloc ?_ (by first | exact Nat.le_refl _ | (simp <;> omega)) _ | refine Below.setCell ?_ (by first | exact Nat.le_refl _ | (simp <;> omega)) _ | refine Below.trans ?_ (Below.mono (by assumption) (by first | exact Nat.le_refl _ | (simp <;> omega)))))
  · have hb := inB_no hr
    clear hr
    go_enter Try.func12, Try.ntmps12
    go_wp2_with (first | (refine wpList_wide some32 Try.underlying25 rfl rfl rfl ?_; intro _ _ _) | (go_at_call 32; go_in) | (go_at_call 33; go_in) | (go_at_call 43; refine (spec_l00In _ _ _ _).mono ?_; rintro e w' ⟨rfl, rfl⟩) | (go_at_call 45; refine (impl_within _ _ _ _).mono ?_; rintro e w' ⟨rfl, rfl⟩) | (go_at_call 18; refine (sameFloat_of (by assumption) (by assumption) (Same.refl _ _) (Same.refl _ _) _).mono ?_; rintro e w' ⟨rfl, n, rfl⟩))
    go_ret
    refine ⟨rfl, ?_⟩
    (repeat' (first | exact Below.refl _ _ | refine below_drewN ?_ _ | refine Below.alloc ?_ (by first | exact Nat.le_refl _ | (simp <;> omega)) _ | refine Below.setCell ?_ (by first | exact Nat.le_refl _ | (simp <;> omega)) _ | refine Below.trans ?_ (Below.mono (by assumption) (by first | exact Nat.le_refl _ | (simp <;> omega)))))

theorem own : ownKnob Try.prog.godebug = none := by kernel_rfl
set_option maxRecDepth 100000 in
theorem lifted (os : Os) (started : os.Started) (H : Type) (enc : TypeId × Value → H) :
    ReturnsInHanded {} Try.checked os 12 .any (Rows.fnExactFromBitsSpec.pre6 enc Try.prog Try.f12 Rows.fnExactFromBitsRow.domain false) (Rows.fnExactFromBitsSpec.post enc Try.prog Try.f12 false true false false) := by
  refine returnsInHanded_of_change (C := Try.checked) own started (by kernel_rfl) Try.func12
    (ChangeSpec.witness6 (enc := enc) (C := Try.checked) false ⟨#[], #[.int .i64 0], []⟩ 8 (by kernel_rfl) (by kernel_rfl) (by kernel_rfl) (by kernel_rfl)) ?_
  intro W base args ds gs before hval0 hW hcnd _
  have hval : ∀ (j : Nat) t v, Try.f12.params[j]? = some t → args[j]? = some v → Value.okWide Try.prog W .any base t v := hval0
  have hW' := hW
  obtain ⟨p, q, hA0, hV, rfl, hfz, hnd⟩ := hW
  have hA : DataW.TrodAll enc Try.prog W 0 (fun _ => true) true Try.f12.params.toList args.toList ds p := hA0
  rw [Try.params12] at hA hval
  obtain ⟨v0, vs0, d0, ds0, p0, q0, hargs, rfl, rfl, h0, r0⟩ := trodAll_cons hA
  obtain ⟨rfl, rfl, rfl⟩ := trodAll_nil r0
  obtain rfl : args = #[v0] := by cases args; simp_all
  obtain ⟨rfl, rfl⟩ := trodVars_none hV
  obtain ⟨a0, rfl, rfl, rfl, w0⟩ := open_int Try.underlying2 (hval 0 2 v0 rfl rfl) h0
  clear hA0 hval0
  refine (walk a0 w0 W).mono fun e W' ⟨he, bel⟩ => ?_
  subst he
  exact ⟨_, rfl, _, _, _, [], _, [], hW', trodAll_mk1 (shut_bool Try.underlying4 _), (trodAll_cons_mk (shut_int Try.underlying2 w0) trodAll_mk0), rfl, bel.frame _, fun h => by cases h⟩

theorem over : Rows.fnExactFromBitsRow.holds Try.pinned (OpenSpec.ofChange Rows.fnExactFromBitsSpec) :=
  OpenClaim.holds_of_wide 12 Try.f12 rfl rfl rfl rfl rfl rfl rfl ⟨rfl, rfl, rfl, rfl, rfl⟩ rfl rfl rfl rfl rfl (by kernel_rfl) Try.func12 (by kernel_rfl)
    (of_decide_eq_true (by kernel_rfl)) (by unfold Func.isWrapper; first | (rw [if_pos (by decide +kernel)]; kernel_rfl) | (rw [if_neg (by decide +kernel)]; exact ⟨rfl, rfl⟩))
    (fun os started H enc _ => lifted os started H enc)

/-- The given statement. -/
theorem proved : Rows.FnExactFromBitsSaid := over
end Go.Proofs.Ytdbkhlkofegaaaa.fnExactFromBits
