/- The given statement FnExactBetweenVectors: the program's function and the reference's agree, for every input. Conditions: none beyond the statement's own. -/
import Derived.Test.YtlampebmbpdloaaBetween
import Derived.Test.YtlampebmbpdloaaOpen
import Derived.Test.YtlampebmbpdloaaRows
import Derived.ProofKit
import Derived.OpenShut
import Derived.ShutString
import Derived.ChangeOld
import Derived.Below
import Derived.LoopTactic
import Derived.Deep.RegionHeld3
import Derived.Deep.DeepCutAuto
namespace Go.Proofs.Ytlampebmbpdloaa.fnExactBetweenVectors
open Go.ChangeShapes Go.WideShapes Go.ChangeAt Go.RowKit
open Go.ChangeMaps (open_string shut_string)
set_option linter.unusedVariables false
set_option maxHeartbeats 3200000 in
theorem walk (x0 y0 z0 : Nat) (w0 : x0 < 4294967296 ∧ y0 < 4294967296 ∧ z0 < 4294967296) (x1 y1 z1 : Nat) (w1 : x1 < 4294967296 ∧ y1 < 4294967296 ∧ z1 < 4294967296) (a2 : Nat) (w2 : (Lit.float .f32 a2).wf = true) (W : World) : Calls Try.prog 8 #[vecV x0 y0 z0, vecV x1 y1 z1, .float .f32 a2] W fun e w' => e = .returned (.bool true) ∧ Below W.heap.size W w' := by
  go_enter Try.func8, Try.ntmps8
  go_upto_region 1 with (fail)
  go_cut [7] (fun s wx => VarV (ad x0 (mu (sb x1 x0) a2)) (ad y0 (mu (sb y1 y0) a2)) (ad z0 (mu (sb z1 z0) a2)) (W.heap.size + 1) s wx ∧ R20 W x0 y0 z0 x1 y1 z1 wx)
  case first =>
    go_region_held3 (fun w' => w'.cell? ⟨W.heap.size, 0, none⟩ = some (.float .f32 x0) ∧ w'.cell? ⟨W.heap.size, 1, none⟩ = some (.float .f32 y0) ∧ w'.cell? ⟨W.heap.size, 2, none⟩ = some (.float .f32 z0) ∧ w'.cell? ⟨W.heap.size + 1, 0, none⟩ = some (.float .f32 x1) ∧ w'.cell? ⟨W.heap.size + 1, 1, none⟩ = some (.float .f32 y1) ∧ w'.cell? ⟨W.heap.size + 1, 2, none⟩ = some (.float .f32 z1) ∧ Below W.heap.size W w' ∧ W.heap.size + 1 < w'.heap.size) ((with_reducible (first | exact S20.keep (by assumption) (by assumption) | exact S20.alloc (by assumption) _ | exact S20.allocD (by assumption) _ | exact S20.drew (by assumption) | exact S20.start _ | exact S20.allocD (S20.start _) _ | exact S20.re (by assumption) (by assumption) _ | exact S20.set (by first | omega | exact RowKit.Hid.out (by assumption)) (by assumption)))) ((first | (go_at_call 16; refine (laws_toVector _ _ _ _).mono ?_; rintro e w' ⟨rfl, hb⟩; have Hs : Hid (W.heap.size + 1 < w'.heap.size) := S20.size (S20.keep hb (by with_reducible assumption) : S20 W x0 y0 z0 x1 y1 z1 w'); (first | (with_reducible have hn := newCells hb; (try simp only [World.size_alloc] at hn)) | (with_reducible have hn := newCellsD hb; (try simp only [World.size_alloc] at hn)) | with_reducible have hn := carryCells (by with_reducible assumption) hb | skip)) | (go_at_call 28; refine (spec_BetweenVectors _ _ _ _ _ _ _ _).mono ?_; rintro e wA ⟨p, q, r, rfl, hp, hq, hr, hb⟩; have Hs : Hid (W.heap.size + 1 < wA.heap.size) := S20.size (S20.keep hb (by with_reducible assumption) : S20 W x0 y0 z0 x1 y1 z1 wA); (first | (with_reducible have hn := newCells hb; (try simp only [World.size_alloc] at hn)) | (with_reducible have hn := newCellsD hb; (try simp only [World.size_alloc] at hn)) | with_reducible have hn := carryCells (by with_reducible assumption) hb | skip))))
    all_goals (go_wp2_with fail; go_meet; refine ⟨?_, ?_⟩; (first | with_reducible exact VarV.new (RowKit.Hid.out (by assumption)) hp hq hr | with_reducible exact VarV.set (by assumption) (by first | omega | exact RowKit.Hid.out (by assumption)) hp hq hr); show S20 W x0 y0 z0 x1 y1 z1 _; with_reducible assumption)
  case rest =>
    obtain ⟨⟨g1, p1, q1, r1, rfl, hgg1, c0g1, c1g1, c2g1, hpg1, hqg1, hrg1⟩, hSg1⟩ := hcut
    have hS1 : S21 W x0 y0 z0 x1 y1 z1 g1 p1 q1 r1 wc := S21.of hSg1 c0g1 c1g1 c2g1
    have HsA := Lib.hid hgg1
    have Hs0 : Hid (g1 < wc.heap.size) := S21.size hS1
    clear hSg1 c0g1 c1g1 c2g1 hgg1
    go_upto_region 2 with (fail)
    go_cut [8] (fun s wx => VarV (ad x0 (mu (sb x1 x0) a2)) (ad y0 (mu (sb y1 y0) a2)) (ad z0 (mu (sb z1 z0) a2)) (g1) s wx ∧ R21 W x0 y0 z0 x1 y1 z1 g1 p1 q1 r1 wx)
    case first =>
      go_region_held3 (fun w' => w'.cell? ⟨W.heap.size, 0, none⟩ = some (.float .f32 x0) ∧ w'.cell? ⟨W.heap.size, 1, none⟩ = some (.float .f32 y0) ∧ w'.cell? ⟨W.heap.size, 2, none⟩ = some (.float .f32 z0) ∧ w'.cell? ⟨W.heap.size + 1, 0, none⟩ = some (.float .f32 x1) ∧ w'.cell? ⟨W.heap.size + 1, 1, none⟩ = some (.float .f32 y1) ∧ w'.cell? ⟨W.heap.size + 1, 2, none⟩ = some (.float .f32 z1) ∧ w'.cell? ⟨g1, 0, none⟩ = some (.float .f32 p1) ∧ w'.cell? ⟨g1, 1, none⟩ = some (.float .f32 q1) ∧ w'.cell? ⟨g1, 2, none⟩ = some (.float .f32 r1) ∧ Below W.heap.size W w' ∧ g1 < w'.heap.size) ((with_reducible (first | exact S21.keep (by assumption) (by assumption) | exact S21.alloc (by assumption) _ | exact S21.allocD (by assumption) _ | exact S21.drew (by assumption) | exact S21.re HsA (by assumption) (by assumption) _ | exact S21.set HsA (by first | omega | exact RowKit.Hid.out (by assumption)) (by assumption)))) ((first | (go_at_call 16; refine (laws_toVector _ _ _ _).mono ?_; rintro e w' ⟨rfl, hb⟩; have Hs : Hid (g1 < w'.heap.size) := S21.size (S21.keep hb (by with_reducible assumption) : S21 W x0 y0 z0 x1 y1 z1 g1 p1 q1 r1 w'); (first | (with_reducible have hn := newCells hb; (try simp only [World.size_alloc] at hn)) | (with_reducible have hn := newCellsD hb; (try simp only [World.size_alloc] at hn)) | with_reducible have hn := carryCells (by with_reducible assumption) hb | skip)) | (go_at_call 29; refine (impl_between _ _ _ _ _ _ _ _).mono ?_; rintro e wB ⟨p, q, r, rfl, hp, hq, hr, hb⟩; have Hs : Hid (g1 < wB.heap.size) := S21.size (S21.keep hb (by with_reducible assumption) : S21 W x0 y0 z0 x1 y1 z1 g1 p1 q1 r1 wB); (first | (with_reducible have hn := newCells hb; (try simp only [World.size_alloc] at hn)) | (with_reducible have hn := newCellsD hb; (try simp only [World.size_alloc] at hn)) | with_reducible have hn := carryCells (by with_reducible assumption) hb | skip))))
      all_goals (go_wp2_with fail; go_meet; refine ⟨?_, ?_⟩; (first | with_reducible exact VarV.new (RowKit.Hid.out (by assumption)) hp hq hr | with_reducible exact VarV.set (by assumption) (by first | omega | exact RowKit.Hid.out (by assumption)) hp hq hr); show S21 W x0 y0 z0 x1 y1 z1 g1 p1 q1 r1 _; with_reducible assumption)
    case rest =>
      obtain ⟨⟨g2, p2, q2, r2, rfl, hgg2, c0g2, c1g2, c2g2, hpg2, hqg2, hrg2⟩, hSg2⟩ := hcut
      have hS2 : S21 W x0 y0 z0 x1 y1 z1 g1 p1 q1 r1 wc := hSg2
      clear hSg2
      go_split_ands
      go_wp2_with (first | (go_at_call 18; refine (eqVector_of (by assumption) (by assumption) (by assumption) (by assumption) (by assumption) (by assumption) _).mono ?_; rintro e w' ⟨rfl, hb⟩))
      go_ret
      refine ⟨rfl, ?_⟩
      (repeat' (first | with_reducible exact Below.refl _ _ | with_reducible assumption | with_reducible exact belowNext (by assumption) (by assumption) | with_reducible exact belowAlloc (by assumption) _ | refine below_drewN ?_ _ | refine Below.alloc ?_ (by first | exact Nat.le_refl _ | (simp <;> omega)) _ | refine Below.setCell ?_ (by first | exact Nat.le_refl _ | (simp <;> omega)) _ | refine Below.trans ?_ (Below.mono (by assumption) (by first | exact Nat.le_refl _ | (simp <;> omega)))))

theorem own : ownKnob Try.prog.godebug = none := by kernel_rfl
theorem laidOut : laidOutB Try.prog = true := by kernel_rfl
set_option maxRecDepth 100000 in
theorem lifted (os : Os) (started : os.Started) (H : Type) (enc : TypeId × Value → H) :
    ReturnsInHanded {} Try.checked os 8 .any (Rows.fnExactBetweenVectorsSpec.pre6 enc Try.prog Try.f8 Rows.fnExactBetweenVectorsRow.domain false) (Rows.fnExactBetweenVectorsSpec.post enc Try.prog Try.f8 false true false false) := by
  refine returnsInHanded_of_change (C := Try.checked) own started (by kernel_rfl) Try.func8
    (ChangeSpec.witness6 (enc := enc) (C := Try.checked) false ⟨#[], #[.agg #[.float .f32 0, .float .f32 0, .float .f32 0], .agg #[.float .f32 0, .float .f32 0, .float .f32 0], .float .f32 0], []⟩ 8 (by kernel_rfl) (by kernel_rfl) (by kernel_rfl) (by kernel_rfl)) ?_
  intro W base args ds gs before hval0 hW hcnd _
  have hval : ∀ (j : Nat) t v, Try.f8.params[j]? = some t → args[j]? = some v → Value.okWide Try.prog W .any base t v := hval0
  have hW' := hW
  obtain ⟨p, q, hA0, hV, rfl, hfz, hnd⟩ := hW
  have hA : DataW.TrodAll enc Try.prog W 0 (fun _ => true) true Try.f8.params.toList args.toList ds p := hA0
  rw [Try.params8] at hA hval
  obtain ⟨v0, vs0, d0, ds0, p0, q0, hargs, rfl, rfl, h0, r0⟩ := trodAll_cons hA
  obtain ⟨v1, vs1, d1, ds1, p1, q1, rfl, rfl, rfl, h1, r1⟩ := trodAll_cons r0
  obtain ⟨v2, vs2, d2, ds2, p2, q2, rfl, rfl, rfl, h2, r2⟩ := trodAll_cons r1
  obtain ⟨rfl, rfl, rfl⟩ := trodAll_nil r2
  obtain rfl : args = #[v0, v1, v2] := by cases args; simp_all
  obtain ⟨rfl, rfl⟩ := trodVars_none hV
  have k0 := h0
  have lt0 : ∀ x ∈ p0, x.block < W.heap.size := by obtain ⟨m, hm⟩ := k0; exact DataW.trod_lt m _ _ _ hm
  obtain ⟨x0, y0, z0, rfl, w0⟩ := opened_V (hval 0 24 v0 rfl rfl) h0
  have k1 := h1
  have lt1 : ∀ x ∈ p1, x.block < W.heap.size := by obtain ⟨m, hm⟩ := k1; exact DataW.trod_lt m _ _ _ hm
  obtain ⟨x1, y1, z1, rfl, w1⟩ := opened_V (hval 1 24 v1 rfl rfl) h1
  obtain ⟨a2, rfl, rfl, rfl, w2⟩ := open_float Try.underlying22 (hval 2 22 v2 rfl rfl) h2
  clear hA0 hval0
  refine (walk x0 y0 z0 w0 x1 y1 z1 w1 a2 w2 W).mono fun e W' ⟨he, bel⟩ => ?_
  subst he
  exact ⟨_, rfl, _, _, _, [], _, [], hW', trodAll_mk1 (shut_bool Try.underlying4 _), (trodAll_cons_mk (Below.trod laidOut (by kernel_rfl) (of_decide_eq_true (by kernel_rfl)) k0 bel lt0) (trodAll_cons_mk (Below.trod laidOut (by kernel_rfl) (of_decide_eq_true (by kernel_rfl)) k1 bel lt1) (trodAll_cons_mk (shut_float Try.underlying22 w2) trodAll_mk0))), rfl, bel.frame _, fun h => by cases h⟩

theorem over : Rows.fnExactBetweenVectorsRow.holds Try.pinned (OpenSpec.ofChange Rows.fnExactBetweenVectorsSpec) :=
  OpenClaim.holds_of_wide 8 Try.f8 rfl rfl rfl rfl rfl rfl rfl ⟨rfl, rfl, rfl, rfl, rfl⟩ rfl rfl rfl rfl rfl (by kernel_rfl) Try.func8 (by kernel_rfl)
    (of_decide_eq_true (by kernel_rfl)) (by unfold Func.isWrapper; first | (rw [if_pos (by decide +kernel)]; kernel_rfl) | (rw [if_neg (by decide +kernel)]; exact ⟨rfl, rfl⟩))
    (fun os started H enc _ => lifted os started H enc)

/-- The given statement. -/
theorem proved : Rows.FnExactBetweenVectorsSaid := over
end Go.Proofs.Ytlampebmbpdloaa.fnExactBetweenVectors
