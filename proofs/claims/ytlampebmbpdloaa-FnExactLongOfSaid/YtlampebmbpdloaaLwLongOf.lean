/- The given statement FnExactLongOf: the program's function and the reference's agree, for every input. Conditions: none beyond the statement's own. -/
import Derived.Test.YtlampebmbpdloaaRoot
import Derived.Test.YtlampebmbpdloaaHeld
import Derived.Test.YtlampebmbpdloaaOpen
import Derived.Test.YtlampebmbpdloaaRows
import Derived.ProofKit
import Derived.OpenShut
import Derived.ShutString
import Derived.ChangeOld
import Derived.Below
import Derived.LoopTactic
import Derived.Deep.RegionHeld3
import Derived.Deep.DeepCutAuto
namespace Go.Proofs.Ytlampebmbpdloaa.fnExactLongOf
open Go.ChangeShapes Go.WideShapes Go.ChangeAt Go.RowKit
open Go.ChangeMaps (open_string shut_string)
set_option linter.unusedVariables false
set_option maxHeartbeats 3200000 in
theorem walk (x0 y0 z0 : Nat) (w0 : x0 < 4294967296 ∧ y0 < 4294967296 ∧ z0 < 4294967296) (W : World) : Calls Try.prog 12 #[vecV x0 y0 z0] W fun e w' => e = .returned (.bool true) ∧ Below W.heap.size W w' := by
  go_enter Try.func12, Try.ntmps12
  go_wp2_with fail
  refine (laws_toVector _ _ _ _).mono ?_
  rintro e w1 ⟨rfl, hb⟩
  have h1 : S10 W x0 y0 z0 w1 := S10.keep hb (S10.undrew (S10.start _))
  clear hb
  go_wp2_with fail
  refine (spec_LongOf _ _ _ _).mono ?_
  rintro e w2 ⟨p1, rfl, hp1, hb⟩
  have h2 := S10.keep hb h1
  clear hb h1
  go_wp2_with fail
  refine (laws_toVector _ _ _ _).mono ?_
  rintro e w3 ⟨rfl, hb⟩
  have h3 := S10.keep hb h2
  clear hb h2
  go_wp2_with fail
  refine (impl_long _ _ _ _).mono ?_
  rintro e w4 ⟨p2, rfl, hp2, hb⟩
  have h4 := S10.keep hb h3
  clear hb h3
  go_split_ands
  go_wp2_with (first | (refine wpList_wide some32 Try.underlying34 rfl rfl rfl ?_; intro _ _ _) | (go_at_call 27; refine (sameFloat_of (by assumption) (by assumption) (by assumption) (by assumption) _).mono ?_; rintro e w' ⟨rfl, n, rfl⟩))
  go_ret
  refine ⟨rfl, ?_⟩
  (repeat' (first | with_reducible exact Below.refl _ _ | with_reducible assumption | with_reducible exact belowNext (by assumption) (by assumption) | with_reducible exact belowAlloc (by assumption) _ | refine below_drewN ?_ _ | refine Below.alloc ?_ (by first | exact Nat.le_refl _ | (simp <;> omega)) _ | refine Below.setCell ?_ (by first | exact Nat.le_refl _ | (simp <;> omega)) _ | refine Below.trans ?_ (Below.mono (by assumption) (by first | exact Nat.le_refl _ | (simp <;> omega)))))

theorem own : ownKnob Try.prog.godebug = none := by kernel_rfl
theorem laidOut : laidOutB Try.prog = true := by kernel_rfl
set_option maxRecDepth 100000 in
theorem lifted (os : Os) (started : os.Started) (H : Type) (enc : TypeId × Value → H) :
    ReturnsInHanded {} Try.checked os 12 .any (Rows.fnExactLongOfSpec.pre6 enc Try.prog Try.f12 Rows.fnExactLongOfRow.domain false) (Rows.fnExactLongOfSpec.post enc Try.prog Try.f12 false true false false) := by
  refine returnsInHanded_of_change (C := Try.checked) own started (by kernel_rfl) Try.func12
    (ChangeSpec.witness6 (enc := enc) (C := Try.checked) false ⟨#[], #[.agg #[.float .f32 0, .float .f32 0, .float .f32 0]], []⟩ 8 (by kernel_rfl) (by kernel_rfl) (by kernel_rfl) (by kernel_rfl)) ?_
  intro W base args ds gs before hval0 hW hcnd _
  have hval : ∀ (j : Nat) t v, Try.f12.params[j]? = some t → args[j]? = some v → Value.okWide Try.prog W .any base t v := hval0
  have hW' := hW
  obtain ⟨p, q, hA0, hV, rfl, hfz, hnd⟩ := hW
  have hA : DataW.TrodAll enc Try.prog W 0 (fun _ => true) true Try.f12.params.toList args.toList ds p := hA0
  rw [Try.params12] at hA hval
  obtain ⟨v0, vs0, d0, ds0, p0, q0, hargs, rfl, rfl, h0, r0⟩ := trodAll_cons hA
  obtain ⟨rfl, rfl, rfl⟩ := trodAll_nil r0
  obtain rfl : args = #[v0] := by cases args; simp_all
  obtain ⟨rfl, rfl⟩ := trodVars_none hV
  have k0 := h0
  have lt0 : ∀ x ∈ p0, x.block < W.heap.size := by obtain ⟨m, hm⟩ := k0; exact DataW.trod_lt m _ _ _ hm
  obtain ⟨x0, y0, z0, rfl, w0⟩ := opened_V (hval 0 24 v0 rfl rfl) h0
  clear hA0 hval0
  refine (walk x0 y0 z0 w0 W).mono fun e W' ⟨he, bel⟩ => ?_
  subst he
  exact ⟨_, rfl, _, _, _, [], _, [], hW', trodAll_mk1 (shut_bool Try.underlying4 _), (trodAll_cons_mk (Below.trod laidOut (by kernel_rfl) (of_decide_eq_true (by kernel_rfl)) k0 bel lt0) trodAll_mk0), rfl, bel.frame _, fun h => by cases h⟩

theorem over : Rows.fnExactLongOfRow.holds Try.pinned (OpenSpec.ofChange Rows.fnExactLongOfSpec) :=
  OpenClaim.holds_of_wide 12 Try.f12 rfl rfl rfl rfl rfl rfl rfl ⟨rfl, rfl, rfl, rfl, rfl⟩ rfl rfl rfl rfl rfl (by kernel_rfl) Try.func12 (by kernel_rfl)
    (of_decide_eq_true (by kernel_rfl)) (by unfold Func.isWrapper; first | (rw [if_pos (by decide +kernel)]; kernel_rfl) | (rw [if_neg (by decide +kernel)]; exact ⟨rfl, rfl⟩))
    (fun os started H enc _ => lifted os started H enc)

/-- The given statement. -/
theorem proved : Rows.FnExactLongOfSaid := over
end Go.Proofs.Ytlampebmbpdloaa.fnExactLongOf
