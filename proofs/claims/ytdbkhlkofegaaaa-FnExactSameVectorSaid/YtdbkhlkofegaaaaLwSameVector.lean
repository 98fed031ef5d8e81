/- The given statement FnExactSameVector: the program's function and the reference's agree, for every input. Conditions: none beyond the statement's own. -/
import Derived.Test.YtdbkhlkofegaaaaVec
import Derived.Test.YtdbkhlkofegaaaaOpen
import Derived.Test.YtdbkhlkofegaaaaRows
import Derived.ProofKit
import Derived.OpenShut
import Derived.ShutString
import Derived.ChangeOld
import Derived.Below
import Derived.LoopTactic
import Derived.Deep.RegionHeld3
namespace Go.Proofs.Ytdbkhlkofegaaaa.fnExactSameVector
open Go.ChangeShapes Go.WideShapes Go.ChangeAt Go.RowKit
open Go.ChangeMaps (open_string shut_string)
set_option linter.unusedVariables false
theorem walk (x0 y0 z0 : Nat) (w0 : x0 < 4294967296 ∧ y0 < 4294967296 ∧ z0 < 4294967296) (x1 y1 z1 : Nat) (w1 : x1 < 4294967296 ∧ y1 < 4294967296 ∧ z1 < 4294967296) (W : World) : Calls Try.prog 13 #[vecV x0 y0 z0, vecV x1 y1 z1] W fun e w' => e = .returned (.bool true) ∧ Below W.heap.size W w' := by
  obtain ⟨b1, b2, b3⟩ := w0
  obtain ⟨c1, c2, c3⟩ := w1
  go_enter Try.func13, Try.ntmps13
  go_wp2_with fail
  go_region_held3 (fun w' => w'.cell? ⟨W.heap.size, 0, none⟩ = some (.float .f32 x0) ∧ w'.cell? ⟨W.heap.size, 1, none⟩ = some (.float .f32 y0) ∧ w'.cell? ⟨W.heap.size, 2, none⟩ = some (.float .f32 z0) ∧ w'.cell? ⟨W.heap.size + 1, 0, none⟩ = some (.float .f32 x1) ∧ w'.cell? ⟨W.heap.size + 1, 1, none⟩ = some (.float .f32 y1) ∧ w'.cell? ⟨W.heap.size + 1, 2, none⟩ = some (.float .f32 z1) ∧ Below W.heap.size W w' ∧ W.heap.size + 1 < w'.heap.size) ((go_split_ands; refine ⟨?_, ?_, ?_, ?_, ?_, ?_, ?_, ?_⟩ <;> (first | exact cellKeep (by assumption) (by assumption) | exact belowNext (by assumption) (by assumption) | exact sizeNext (by assumption) (by assumption) | assumption | (simp; done) | (simp [*]; done) | ((refine Below.drew ?_); first | assumption | (repeat' (first | exact Below.refl _ _ | refine Below.alloc ?_ (by first | exact Nat.le_refl _ | (simp <;> omega)) _)))))) ((first | (go_at_call 30; refine (laws_toVector _ _ _ _).mono ?_; rintro e w' ⟨rfl, hb⟩) | (go_at_call 34; refine (spec_SameVector _ _ _ _ _ _ b1 b2 b3 c1 c2 c3 _).mono ?_; rintro e w' ⟨rfl, hb⟩)))
  go_wp2_with fail
  go_region_held3 (fun w' => w'.cell? ⟨W.heap.size, 0, none⟩ = some (.float .f32 x0) ∧ w'.cell? ⟨W.heap.size, 1, none⟩ = some (.float .f32 y0) ∧ w'.cell? ⟨W.heap.size, 2, none⟩ = some (.float .f32 z0) ∧ w'.cell? ⟨W.heap.size + 1, 0, none⟩ = some (.float .f32 x1) ∧ w'.cell? ⟨W.heap.size + 1, 1, none⟩ = some (.float .f32 y1) ∧ w'.cell? ⟨W.heap.size + 1, 2, none⟩ = some (.float .f32 z1) ∧ Below W.heap.size W w' ∧ W.heap.size + 1 < w'.heap.size) ((go_split_ands; refine ⟨?_, ?_, ?_, ?_, ?_, ?_, ?_, ?_⟩ <;> (first | exact cellKeep (by assumption) (by assumption) | exact belowNext (by assumption) (by assumption) | exact sizeNext (by assumption) (by assumption) | assumption | (simp; done) | (simp [*]; done) | ((refine Below.drew ?_); first | assumption | (repeat' (first | exact Below.refl _ _ | refine Below.alloc ?_ (by first | exact Nat.le_refl _ | (simp <;> omega)) _)))))) ((first | (go_at_call 30; refine (laws_toVector _ _ _ _).mono ?_; rintro e w' ⟨rfl, hb⟩) | (go_at_call 35; refine (impl_vsame _ _ _ _ _ _ b1 b2 b3 c1 c2 c3 _).mono ?_; rintro e w' ⟨rfl, hb⟩)))
  go_split_ands
  go_wp2_with fail
  go_ret
  refine ⟨rfl, ?_⟩
  (repeat' (first | exact Below.refl _ _ | refine below_drewN ?_ _ | refine Below.alloc ?_ (by first | exact Nat.le_refl _ | (simp <;> omega)) _ | refine Below.setCell ?_ (by first | exact Nat.le_refl _ | (simp <;> omega)) _ | refine Below.trans ?_ (Below.mono (by assumption) (by first | exact Nat.le_refl _ | (simp <;> omega)))))

theorem own : ownKnob Try.prog.godebug = none := by kernel_rfl
theorem laidOut : laidOutB Try.prog = true := by kernel_rfl
set_option maxRecDepth 100000 in
theorem lifted (os : Os) (started : os.Started) (H : Type) (enc : TypeId × Value → H) :
    ReturnsInHanded {} Try.checked os 13 .any (Rows.fnExactSameVectorSpec.pre6 enc Try.prog Try.f13 Rows.fnExactSameVectorRow.domain false) (Rows.fnExactSameVectorSpec.post enc Try.prog Try.f13 false true false false) := by
  refine returnsInHanded_of_change (C := Try.checked) own started (by kernel_rfl) Try.func13
    (ChangeSpec.witness6 (enc := enc) (C := Try.checked) false ⟨#[], #[.agg #[.float .f32 0, .float .f32 0, .float .f32 0], .agg #[.float .f32 0, .float .f32 0, .float .f32 0]], []⟩ 8 (by kernel_rfl) (by kernel_rfl) (by kernel_rfl) (by kernel_rfl)) ?_
  intro W base args ds gs before hval0 hW hcnd _
  have hval : ∀ (j : Nat) t v, Try.f13.params[j]? = some t → args[j]? = some v → Value.okWide Try.prog W .any base t v := hval0
  have hW' := hW
  obtain ⟨p, q, hA0, hV, rfl, hfz, hnd⟩ := hW
  have hA : DataW.TrodAll enc Try.prog W 0 (fun _ => true) true Try.f13.params.toList args.toList ds p := hA0
  rw [Try.params13] at hA hval
  obtain ⟨v0, vs0, d0, ds0, p0, q0, hargs, rfl, rfl, h0, r0⟩ := trodAll_cons hA
  obtain ⟨v1, vs1, d1, ds1, p1, q1, rfl, rfl, rfl, h1, r1⟩ := trodAll_cons r0
  obtain ⟨rfl, rfl, rfl⟩ := trodAll_nil r1
  obtain rfl : args = #[v0, v1] := by cases args; simp_all
  obtain ⟨rfl, rfl⟩ := trodVars_none hV
  have k0 := h0
  have lt0 : ∀ x ∈ p0, x.block < W.heap.size := by obtain ⟨m, hm⟩ := k0; exact DataW.trod_lt m _ _ _ hm
  obtain ⟨x0, y0, z0, rfl, w0⟩ := opened_V (hval 0 36 v0 rfl rfl) h0
  have k1 := h1
  have lt1 : ∀ x ∈ p1, x.block < W.heap.size := by obtain ⟨m, hm⟩ := k1; exact DataW.trod_lt m _ _ _ hm
  obtain ⟨x1, y1, z1, rfl, w1⟩ := opened_V (hval 1 36 v1 rfl rfl) h1
  clear hA0 hval0
  refine (walk x0 y0 z0 w0 x1 y1 z1 w1 W).mono fun e W' ⟨he, bel⟩ => ?_
  subst he
  exact ⟨_, rfl, _, _, _, [], _, [], hW', trodAll_mk1 (shut_bool Try.underlying4 _), (trodAll_cons_mk (Below.trod laidOut (by kernel_rfl) (of_decide_eq_true (by kernel_rfl)) k0 bel lt0) (trodAll_cons_mk (Below.trod laidOut (by kernel_rfl) (of_decide_eq_true (by kernel_rfl)) k1 bel lt1) trodAll_mk0)), rfl, bel.frame _, fun h => by cases h⟩

theorem over : Rows.fnExactSameVectorRow.holds Try.pinned (OpenSpec.ofChange Rows.fnExactSameVectorSpec) :=
  OpenClaim.holds_of_wide 13 Try.f13 rfl rfl rfl rfl rfl rfl rfl ⟨rfl, rfl, rfl, rfl, rfl⟩ rfl rfl rfl rfl rfl (by kernel_rfl) Try.func13 (by kernel_rfl)
    (of_decide_eq_true (by kernel_rfl)) (by unfold Func.isWrapper; first | (rw [if_pos (by decide +kernel)]; kernel_rfl) | (rw [if_neg (by decide +kernel)]; exact ⟨rfl, rfl⟩))
    (fun os started H enc _ => lifted os started H enc)

/-- The given statement. -/
theorem proved : Rows.FnExactSameVectorSaid := over
end Go.Proofs.Ytdbkhlkofegaaaa.fnExactSameVector
