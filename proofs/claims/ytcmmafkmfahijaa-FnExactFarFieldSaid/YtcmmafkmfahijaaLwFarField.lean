/- The given statement FnExactFarField: the program's function and the reference's agree, for every input. Conditions: none beyond the statement's own. -/
import Derived.Test.YtcmmafkmfahijaaFarF
import Derived.Test.YtcmmafkmfahijaaOpen
import Derived.Test.YtcmmafkmfahijaaRows
import Derived.ProofKit
import Derived.OpenShut
import Derived.ShutString
import Derived.ChangeOld
import Derived.Below
import Derived.LoopTactic
import Derived.Deep.RegionHeld3
import Derived.Deep.DeepCutAuto
namespace Go.Proofs.Ytcmmafkmfahijaa.fnExactFarField
open Go.ChangeShapes Go.WideShapes Go.ChangeAt Go.RowKit
open Go.ChangeMaps (open_string shut_string)
set_option linter.unusedVariables false
set_option maxRecDepth 100000
set_option maxHeartbeats 9600000 in
theorem walk (x0 y0 z0 : Nat) (w0 : x0 < 4294967296 ∧ y0 < 4294967296 ∧ z0 < 4294967296) (x1 y1 z1 : Nat) (w1 : x1 < 4294967296 ∧ y1 < 4294967296 ∧ z1 < 4294967296) (W : World) : Calls Try.prog 12 #[vecV x0 y0 z0, vecV x1 y1 z1] W fun e w' => e = .returned (.bool true) ∧ Below W.heap.size W w' := by
  have C1 := Lib.hid (fun w => spec_far x0 y0 z0 x1 y1 z1 w)
  have C2 := Lib.hid (fun w => impl_far x0 y0 z0 x1 y1 z1 w)
  unfold FlagVec at C1 C2
  generalize (if farB x0 y0 z0 x1 y1 z1 = true then farC x0 y0 z0 x1 y1 z1 x0 x1 else 0) = FX at *
  generalize (if farB x0 y0 z0 x1 y1 z1 = true then farC x0 y0 z0 x1 y1 z1 y0 y1 else 0) = FY at *
  generalize (if farB x0 y0 z0 x1 y1 z1 = true then farC x0 y0 z0 x1 y1 z1 z0 z1 else 0) = FZ at *
  generalize farB x0 y0 z0 x1 y1 z1 = FB at *
  have nn : (FB != FB) = false := by simp
  obtain ⟨K, eK⟩ : ∃ K : World → Prop, K = BelK W (W.heap.size + 1) := ⟨_, rfl⟩
  have HK := Lib.hid eK
  have HLK : Hid (Loc (W.heap.size + 1) K) := Lib.hid (by rw [eK]; exact BelK.loc (by omega))
  have HL : Hid (Loc (W.heap.size + 1) (S6 W.heap.size x0 y0 z0 (W.heap.size + 1) x1 y1 z1 K)) := Lib.hid (Loc.s6' HLK.out (by omega) (by omega))
  obtain ⟨wz, e0⟩ : ∃ wz, wz = ((W.alloc (.cells #[.float .f32 x0, .float .f32 y0, .float .f32 z0] 51)).alloc (.cells #[.float .f32 x1, .float .f32 y1, .float .f32 z1] 51)) := ⟨_, rfl⟩
  have S0 : S6 W.heap.size x0 y0 z0 (W.heap.size + 1) x1 y1 z1 K wz := by
    rw [eK, e0]
    exact S6.start2 W _
  have hs0 := Loc.size HL S0
  clear eK
  go_enter Try.func12, Try.ntmps12
  go_upto_region 1 with (fail)
  rw [← e0]
  clear e0
  go_upto_region 1 with (fail)
  go_cut [5, 6] (fun s t wx => (VarV FX FY FZ (W.heap.size + 1) s wx ∧ t = .bool FB) ∧ Mid6 W.heap.size x0 y0 z0 (W.heap.size + 1) x1 y1 z1 K wx)
  case first =>
    go_region_held3 (S6 W.heap.size x0 y0 z0 (W.heap.size + 1) x1 y1 z1 K) (with_reducible (first | exact S0 | exact Loc.drew HL S0 | exact Loc.drew HL (Loc.alloc HL S0 _) | exact hSb | exact (Loc.alloc HL hSb _) | exact (Loc.set HL (Loc.set HL (Loc.set HL hSb (by omega)) (by omega)) (by omega)) | exact (Loc.alloc HL (Loc.set HL (Loc.set HL (Loc.set HL hSb (by omega)) (by omega)) (by omega)) _)))
      (first
        | (go_at_call 50; refine (laws_toVector _ _ _ _).mono ?_; rintro e wb ⟨rfl, hb⟩; have hSb : (S6 W.heap.size x0 y0 z0 (W.heap.size + 1) x1 y1 z1 K) wb := Loc.keep HL hb (by first | exact hSb | exact Loc.alloc HL hSb _ | exact Loc.alloc HL (Loc.alloc HL hSb _) _ | exact S0 | exact Loc.drew HL S0 | exact Loc.drew HL (Loc.alloc HL S0 _) | exact Loc.drew HL (Loc.alloc HL (Loc.alloc HL S0 _) _)); have hz := hb.size; (try rw [drewSize] at hz); (try simp only [World.size_alloc] at hz); have hs := Loc.size HL hSb; (first | (with_reducible have hn2 := R6.keep (by assumption) hb) | (with_reducible have hn2 := R6.both hb) | (with_reducible have hn2 := R6.bothD hb) | (with_reducible have hn2 := R6.next (by assumption) hb) | (with_reducible have hn1 := newCells hb) | (with_reducible have hn1 := newCellsD hb) | (with_reducible have hn1 := carryCells (by assumption) hb) | skip); (try have hq1 := R3.lt hn1); (try have hq2 := R6.lt hn2))
        | (go_at_call 49; refine (C1.out _).mono ?_; rintro e wb ⟨p, q, r, rfl, hp, hq, hr, hb⟩; have hSb : (S6 W.heap.size x0 y0 z0 (W.heap.size + 1) x1 y1 z1 K) wb := Loc.keep HL hb (by first | exact hSb | exact Loc.alloc HL hSb _ | exact Loc.alloc HL (Loc.alloc HL hSb _) _ | exact S0 | exact Loc.drew HL S0 | exact Loc.drew HL (Loc.alloc HL S0 _) | exact Loc.drew HL (Loc.alloc HL (Loc.alloc HL S0 _) _)); have hz := hb.size; (try rw [drewSize] at hz); (try simp only [World.size_alloc] at hz); have hs := Loc.size HL hSb; (first | (with_reducible have hn2 := R6.keep (by assumption) hb) | (with_reducible have hn2 := R6.both hb) | (with_reducible have hn2 := R6.bothD hb) | (with_reducible have hn2 := R6.next (by assumption) hb) | (with_reducible have hn1 := newCells hb) | (with_reducible have hn1 := newCellsD hb) | (with_reducible have hn1 := carryCells (by assumption) hb) | skip); (try have hq1 := R3.lt hn1); (try have hq2 := R6.lt hn2)))
    all_goals
      go_wp2_with fail
      go_meet
      refine ⟨⟨?_, rfl⟩, (show S6 W.heap.size x0 y0 z0 (W.heap.size + 1) x1 y1 z1 K _ by with_reducible assumption)⟩
      apply VarV.mk
      · (repeat' (first | with_reducible exact BoxV.new0 | with_reducible exact BoxV.new1 | with_reducible exact BoxV.new2 | with_reducible exact Any3.of (by assumption) | with_reducible exact Any3.fst (by assumption) | with_reducible exact Any3.snd (by assumption) | with_reducible apply BoxV.set | with_reducible apply BoxV.past | with_reducible apply BoxV.alloc | with_reducible exact BoxV.of hn1 | with_reducible apply Any3.past | with_reducible apply Any3.alloc | omega))
      all_goals (first | with_reducible assumption | omega)
  case rest =>
  obtain ⟨⟨⟨g, p1, q1, r1, rfl, lg, c0, c1, c2, e0, e1, e2⟩, rfl⟩, hM⟩ := hcut
  have HE := Lib.hid (And.intro e0 (And.intro e1 e2))
  obtain ⟨J, eJ⟩ : ∃ J : World → Prop, J = (fun w => BoxV g p1 q1 r1 w ∧ K w) := ⟨_, rfl⟩
  have HJ := Lib.hid eJ
  obtain ⟨a0, a1, a2, a3, a4, a5, a6⟩ : S6 W.heap.size x0 y0 z0 (W.heap.size + 1) x1 y1 z1 K wc := hM
  clear S0 hs0 HL
  have S0 : S6 W.heap.size x0 y0 z0 (W.heap.size + 1) x1 y1 z1 J wc := ⟨a0, a1, a2, a3, a4, a5, by rw [eJ]; exact ⟨⟨c0, c1, c2⟩, a6⟩⟩
  have HL : Hid (Loc g (S6 W.heap.size x0 y0 z0 (W.heap.size + 1) x1 y1 z1 J)) := Lib.hid (Loc.s6' (by rw [eJ]; exact Loc.both' (Loc.boxV _ _ _ _) HLK.out (by omega)) (by omega) (by omega))
  have hs0 := Loc.size HL S0
  clear c0 c1 c2 e0 e1 e2 a0 a1 a2 a3 a4 a5 a6 eJ
  go_upto_region 2 with (fail)
  go_cut [7, 8] (fun s t wx => (VarV FX FY FZ (g) s wx ∧ t = .bool FB) ∧ Mid6 W.heap.size x0 y0 z0 (W.heap.size + 1) x1 y1 z1 J wx)
  case first =>
    go_region_held3 (S6 W.heap.size x0 y0 z0 (W.heap.size + 1) x1 y1 z1 J) (with_reducible (first | exact S0 | exact Loc.drew HL S0 | exact Loc.drew HL (Loc.alloc HL S0 _) | exact hSb | exact (Loc.alloc HL hSb _) | exact (Loc.set HL (Loc.set HL (Loc.set HL hSb (by omega)) (by omega)) (by omega)) | exact (Loc.alloc HL (Loc.set HL (Loc.set HL (Loc.set HL hSb (by omega)) (by omega)) (by omega)) _)))
      (first
        | (go_at_call 50; refine (laws_toVector _ _ _ _).mono ?_; rintro e wb ⟨rfl, hb⟩; have hSb : (S6 W.heap.size x0 y0 z0 (W.heap.size + 1) x1 y1 z1 J) wb := Loc.keep HL hb (by first | exact hSb | exact Loc.alloc HL hSb _ | exact Loc.alloc HL (Loc.alloc HL hSb _) _ | exact S0 | exact Loc.drew HL S0 | exact Loc.drew HL (Loc.alloc HL S0 _) | exact Loc.drew HL (Loc.alloc HL (Loc.alloc HL S0 _) _)); have hz := hb.size; (try rw [drewSize] at hz); (try simp only [World.size_alloc] at hz); have hs := Loc.size HL hSb; (first | (with_reducible have hn2 := R6.keep (by assumption) hb) | (with_reducible have hn2 := R6.both hb) | (with_reducible have hn2 := R6.bothD hb) | (with_reducible have hn2 := R6.next (by assumption) hb) | (with_reducible have hn1 := newCells hb) | (with_reducible have hn1 := newCellsD hb) | (with_reducible have hn1 := carryCells (by assumption) hb) | skip); (try have hq1 := R3.lt hn1); (try have hq2 := R6.lt hn2))
        | (go_at_call 51; refine (C2.out _).mono ?_; rintro e wb ⟨p, q, r, rfl, hp, hq, hr, hb⟩; have hSb : (S6 W.heap.size x0 y0 z0 (W.heap.size + 1) x1 y1 z1 J) wb := Loc.keep HL hb (by first | exact hSb | exact Loc.alloc HL hSb _ | exact Loc.alloc HL (Loc.alloc HL hSb _) _ | exact S0 | exact Loc.drew HL S0 | exact Loc.drew HL (Loc.alloc HL S0 _) | exact Loc.drew HL (Loc.alloc HL (Loc.alloc HL S0 _) _)); have hz := hb.size; (try rw [drewSize] at hz); (try simp only [World.size_alloc] at hz); have hs := Loc.size HL hSb; (first | (with_reducible have hn2 := R6.keep (by assumption) hb) | (with_reducible have hn2 := R6.both hb) | (with_reducible have hn2 := R6.bothD hb) | (with_reducible have hn2 := R6.next (by assumption) hb) | (with_reducible have hn1 := newCells hb) | (with_reducible have hn1 := newCellsD hb) | (with_reducible have hn1 := carryCells (by assumption) hb) | skip); (try have hq1 := R3.lt hn1); (try have hq2 := R6.lt hn2)))
    all_goals
      go_wp2_with fail
      go_meet
      refine ⟨⟨?_, rfl⟩, (show S6 W.heap.size x0 y0 z0 (W.heap.size + 1) x1 y1 z1 J _ by with_reducible assumption)⟩
      apply VarV.mk
      · (repeat' (first | with_reducible exact BoxV.new0 | with_reducible exact BoxV.new1 | with_reducible exact BoxV.new2 | with_reducible exact Any3.of (by assumption) | with_reducible exact Any3.fst (by assumption) | with_reducible exact Any3.snd (by assumption) | with_reducible apply BoxV.set | with_reducible apply BoxV.past | with_reducible apply BoxV.alloc | with_reducible exact BoxV.of hn1 | with_reducible apply Any3.past | with_reducible apply Any3.alloc | omega))
      all_goals (first | with_reducible assumption | omega)
  case rest =>
  obtain ⟨⟨⟨h, p2, q2, r2, rfl, lh, c0, c1, c2, f0, f1, f2⟩, rfl⟩, hM⟩ := hcut
  have hJ : J wc := S6.whole (show S6 W.heap.size x0 y0 z0 (W.heap.size + 1) x1 y1 z1 J wc from hM)
  rw [HJ.out] at hJ
  obtain ⟨⟨d0, d1, d2⟩, hK⟩ := hJ
  rw [HK.out] at hK
  have HB := Lib.hid hK.2
  obtain ⟨e0, e1, e2⟩ := HE.out
  clear hM hK S0 hs0
  go_wp2_with (first | (go_at_call 52; refine (eqVector_of f0 f1 f2 e0 e1 e2 _).mono ?_; rintro e w' ⟨rfl, hb⟩; have HB2 := Lib.hid (belowNext HB.out hb); clear hb))
  go_ret
  exact ⟨rfl, HB2.out⟩

theorem own : ownKnob Try.prog.godebug = none := by kernel_rfl
theorem laidOut : laidOutB Try.prog = true := by kernel_rfl
set_option maxRecDepth 100000 in
theorem lifted (os : Os) (started : os.Started) (H : Type) (enc : TypeId × Value → H) :
    ReturnsInHanded {} Try.checked os 12 .any (Rows.fnExactFarFieldSpec.pre6 enc Try.prog Try.f12 Rows.fnExactFarFieldRow.domain false) (Rows.fnExactFarFieldSpec.post enc Try.prog Try.f12 false true false false) := by
  refine returnsInHanded_of_change (C := Try.checked) own started (by kernel_rfl) Try.func12
    (ChangeSpec.witness6 (enc := enc) (C := Try.checked) false ⟨#[], #[.agg #[.float .f32 0, .float .f32 0, .float .f32 0], .agg #[.float .f32 0, .float .f32 0, .float .f32 0]], []⟩ 8 (by kernel_rfl) (by kernel_rfl) (by kernel_rfl) (by kernel_rfl)) ?_
  intro W base args ds gs before hval0 hW hcnd _
  have hval : ∀ (j : Nat) t v, Try.f12.params[j]? = some t → args[j]? = some v → Value.okWide Try.prog W .any base t v := hval0
  have hW' := hW
  obtain ⟨p, q, hA0, hV, rfl, hfz, hnd⟩ := hW
  have hA : DataW.TrodAll enc Try.prog W 0 (fun _ => true) true Try.f12.params.toList args.toList ds p := hA0
  rw [Try.params12] at hA hval
  obtain ⟨v0, vs0, d0, ds0, p0, q0, hargs, rfl, rfl, h0, r0⟩ := trodAll_cons hA
  obtain ⟨v1, vs1, d1, ds1, p1, q1, rfl, rfl, rfl, h1, r1⟩ := trodAll_cons r0
  obtain ⟨rfl, rfl, rfl⟩ := trodAll_nil r1
  obtain rfl : args = #[v0, v1] := by cases args; simp_all
  obtain ⟨rfl, rfl⟩ := trodVars_none hV
  have k0 := h0
  have lt0 : ∀ x ∈ p0, x.block < W.heap.size := by obtain ⟨m, hm⟩ := k0; exact DataW.trod_lt m _ _ _ hm
  obtain ⟨x0, y0, z0, rfl, w0⟩ := opened_V (hval 0 51 v0 rfl rfl) h0
  have k1 := h1
  have lt1 : ∀ x ∈ p1, x.block < W.heap.size := by obtain ⟨m, hm⟩ := k1; exact DataW.trod_lt m _ _ _ hm
  obtain ⟨x1, y1, z1, rfl, w1⟩ := opened_V (hval 1 51 v1 rfl rfl) h1
  clear hA0 hval0
  refine (walk x0 y0 z0 w0 x1 y1 z1 w1 W).mono fun e W' ⟨he, bel⟩ => ?_
  subst he
  exact ⟨_, rfl, _, _, _, [], _, [], hW', trodAll_mk1 (shut_bool Try.underlying4 _), (trodAll_cons_mk (Below.trod laidOut (by kernel_rfl) (of_decide_eq_true (by kernel_rfl)) k0 bel lt0) (trodAll_cons_mk (Below.trod laidOut (by kernel_rfl) (of_decide_eq_true (by kernel_rfl)) k1 bel lt1) trodAll_mk0)), rfl, bel.frame _, fun h => by cases h⟩

theorem over : Rows.fnExactFarFieldRow.holds Try.pinned (OpenSpec.ofChange Rows.fnExactFarFieldSpec) :=
  OpenClaim.holds_of_wide 12 Try.f12 rfl rfl rfl rfl rfl rfl rfl ⟨rfl, rfl, rfl, rfl, rfl⟩ rfl rfl rfl rfl rfl (by kernel_rfl) Try.func12 (by kernel_rfl)
    (of_decide_eq_true (by kernel_rfl)) (by unfold Func.isWrapper; first | (rw [if_pos (by decide +kernel)]; kernel_rfl) | (rw [if_neg (by decide +kernel)]; exact ⟨rfl, rfl⟩))
    (fun os started H enc _ => lifted os started H enc)

/-- The given statement. -/
theorem proved : Rows.FnExactFarFieldSaid := over
end Go.Proofs.Ytcmmafkmfahijaa.fnExactFarField
