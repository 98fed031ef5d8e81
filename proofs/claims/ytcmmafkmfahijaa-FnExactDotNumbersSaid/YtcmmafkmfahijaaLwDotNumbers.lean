/- The given statement FnExactDotNumbers: the program's function and the reference's agree, for every input. Conditions: none beyond the statement's own. -/
import Derived.Test.YtcmmafkmfahijaaList
import Derived.Test.YtcmmafkmfahijaaOpen
import Derived.Test.YtcmmafkmfahijaaRows
import Derived.ProofKit
import Derived.OpenShut
import Derived.ShutString
import Derived.ChangeOld
import Derived.Below
import Derived.LoopTactic
import Derived.Deep.RegionHeld3
import Derived.Deep.DeepCutAuto
namespace Go.Proofs.Ytcmmafkmfahijaa.fnExactDotNumbers
open Go.ChangeShapes Go.WideShapes Go.ChangeAt Go.RowKit
open Go.ChangeMaps (open_string shut_string)
set_option linter.unusedVariables false
set_option maxHeartbeats 3200000 in
theorem walk (W : World) (a0 : Value) (w0 : Is_F a0 W) (a1 : Value) (w1 : Is_F a1 W) : Calls Try.prog 3 #[a0, a1] W fun e w' => e = .returned (.bool true) ∧ Below W.heap.size W w' := by
  rcases w0 with ⟨a0', c0, rfl⟩ | ⟨b0, o0, n0, c0, L0, rfl, hb0, hnc0, hcm0, hc0⟩
  ·
    rcases w1 with ⟨a1', c1, rfl⟩ | ⟨b1, o1, n1, c1, L1, rfl, hb1, hnc1, hcm1, hc1⟩
    ·
      have B0 : Hid (Below W.heap.size W W) := Lib.hid (Below.refl _ _)
      go_enter Try.func3, Try.ntmps3
      go_wp2_with fail
      refine (laws_toF_nil _ _ _).mono ?_
      rintro e w1 ⟨rfl, row, bel⟩
      have P0_1 := Lib.hid (FS.row (L := (fun _ => 0)) row)
      have lP0_1 := row.lt
      have B1 := Lib.hid (belowNext (B0.out) bel)
      clear row bel
      go_wp2_with fail
      refine (laws_toF_nil _ _ _).mono ?_
      rintro e w2 ⟨rfl, row, bel⟩
      have P0_2 := Lib.hid (FS.below bel lP0_1 P0_1.out)
      have lP0_2 := lt_below bel lP0_1
      have P1_2 := Lib.hid (FS.row (L := (fun _ => 0)) row)
      have lP1_2 := row.lt
      have B2 := Lib.hid (belowNext (B1.out) bel)
      clear row bel
      go_wp2_with fail
      refine (spec_DotNumbers _ _ _ 0 _ _ _ 0 (fun _ => 0) (fun _ => 0) (by omega) (by omega) _ (P0_2.out) (P1_2.out)).mono ?_
      rintro e wx ⟨r1, m1, rfl, hr1, rfl⟩
      go_wp2_with fail
      refine (laws_toF_nil _ _ _).mono ?_
      rintro e w3 ⟨rfl, row, bel⟩
      have Q0_3 := Lib.hid (FS.row (L := (fun _ => 0)) row)
      have lQ0_3 := row.lt
      have B3 := Lib.hid (belowNext (below_drewN B2.out _) bel)
      clear row bel
      go_wp2_with fail
      refine (laws_toF_nil _ _ _).mono ?_
      rintro e w4 ⟨rfl, row, bel⟩
      have Q0_4 := Lib.hid (FS.below bel lQ0_3 Q0_3.out)
      have lQ0_4 := lt_below bel lQ0_3
      have Q1_4 := Lib.hid (FS.row (L := (fun _ => 0)) row)
      have lQ1_4 := row.lt
      have B4 := Lib.hid (belowNext (B3.out) bel)
      clear row bel
      go_wp2_with fail
      refine (impl_DotNumbers _ _ _ 0 _ _ _ 0 (fun _ => 0) (fun _ => 0) (by omega) (by omega) _ (Q0_4.out) (Q1_4.out)).mono ?_
      rintro e wx ⟨r2, m2, rfl, hr2, rfl⟩
      go_wp2_with (first | (refine wpList_wide some32 Try.underlying28 rfl rfl rfl ?_; intro _ _ _) | (go_at_call 17; refine (sameFloat_of (by assumption) (by assumption) (by assumption) (by assumption) _).mono ?_; rintro e w' ⟨rfl, n, rfl⟩))
      go_wp2_with fail
      refine (laws_toF_nil _ _ _).mono ?_
      rintro e w5 ⟨rfl, row, bel⟩
      have Q0_5 := Lib.hid (FS.below bel lQ0_4 Q0_4.out)
      have lQ0_5 := lt_below bel lQ0_4
      have Q1_5 := Lib.hid (FS.below bel lQ1_4 Q1_4.out)
      have lQ1_5 := lt_below bel lQ1_4
      have R0_5 := Lib.hid (FS.row (L := (fun _ => 0)) row)
      have lR0_5 := row.lt
      have B5 := Lib.hid (belowNext (below_drewN B4.out _) bel)
      clear row bel
      go_wp2_with fail
      refine (laws_eqF _ 0 _ _ 0 _ 0 (fun _ => 0) (fun _ => 0) (fun _ => 0) (by omega) _ (Q0_5.out) (R0_5.out) (fun _ _ => ⟨Same.refl _ _, Same.refl _ _⟩)).mono ?_
      rintro e wx ⟨rfl, m3, rfl⟩
      go_wp2_with fail
      refine (laws_toF_nil _ _ _).mono ?_
      rintro e w6 ⟨rfl, row, bel⟩
      have Q0_6 := Lib.hid (FS.below bel lQ0_5 Q0_5.out)
      have lQ0_6 := lt_below bel lQ0_5
      have Q1_6 := Lib.hid (FS.below bel lQ1_5 Q1_5.out)
      have lQ1_6 := lt_below bel lQ1_5
      have R0_6 := Lib.hid (FS.below bel lR0_5 R0_5.out)
      have lR0_6 := lt_below bel lR0_5
      have R1_6 := Lib.hid (FS.row (L := (fun _ => 0)) row)
      have lR1_6 := row.lt
      have B6 := Lib.hid (belowNext (below_drewN B5.out _) bel)
      clear row bel
      go_wp2_with fail
      refine (laws_eqF _ 0 _ _ 0 _ 0 (fun _ => 0) (fun _ => 0) (fun _ => 0) (by omega) _ (Q1_6.out) (R1_6.out) (fun _ _ => ⟨Same.refl _ _, Same.refl _ _⟩)).mono ?_
      rintro e wx ⟨rfl, m4, rfl⟩
      go_wp2_with fail
      go_ret
      exact ⟨rfl, below_drewN B6.out _⟩
    ·
      by_cases hn1 : n1 ≤ 1048576
      ·
        have hh1 : decide (1048576 < (n1 : Int)) = false := decide_eq_false (by omega)
        have A1_0 := Lib.hid hc1
        have l1_0 : b1 < W.heap.size := hb1
        clear hc1 hb1
        have B0 : Hid (Below W.heap.size W W) := Lib.hid (Below.refl _ _)
        go_enter Try.func3, Try.ntmps3
        go_wp2_with fail
        refine (laws_toF_nil _ _ _).mono ?_
        rintro e w1 ⟨rfl, row, bel⟩
        have A1_1 := Lib.hid (FS.below bel l1_0 A1_0.out)
        have lA1_1 := lt_below bel l1_0
        have P0_1 := Lib.hid (FS.row (L := (fun _ => 0)) row)
        have lP0_1 := row.lt
        have B1 := Lib.hid (belowNext (B0.out) bel)
        clear row bel
        go_wp2_with fail
        refine (laws_toF b1 o1 n1 c1 L1 hn1 _ ?_ ?_).mono ?_
        · exact A1_1.out
        · exact lA1_1
        rintro e w2 ⟨rfl, row, bel⟩
        have A1_2 := Lib.hid (FS.below bel lA1_1 A1_1.out)
        have lA1_2 := lt_below bel lA1_1
        have P0_2 := Lib.hid (FS.below bel lP0_1 P0_1.out)
        have lP0_2 := lt_below bel lP0_1
        have P1_2 := Lib.hid (FS.row (L := L1) row)
        have lP1_2 := row.lt
        have B2 := Lib.hid (belowNext (B1.out) bel)
        clear row bel
        go_wp2_with fail
        refine (spec_DotNumbers _ _ _ 0 _ _ _ n1 (fun _ => 0) L1 (by omega) hn1 _ (P0_2.out) (P1_2.out)).mono ?_
        rintro e wx ⟨r1, m1, rfl, hr1, rfl⟩
        go_wp2_with fail
        refine (laws_toF_nil _ _ _).mono ?_
        rintro e w3 ⟨rfl, row, bel⟩
        have A1_3 := Lib.hid (FS.below bel lA1_2 A1_2.out)
        have lA1_3 := lt_below bel lA1_2
        have Q0_3 := Lib.hid (FS.row (L := (fun _ => 0)) row)
        have lQ0_3 := row.lt
        have B3 := Lib.hid (belowNext (below_drewN B2.out _) bel)
        clear row bel
        go_wp2_with fail
        refine (laws_toF b1 o1 n1 c1 L1 hn1 _ ?_ ?_).mono ?_
        · exact A1_3.out
        · exact lA1_3
        rintro e w4 ⟨rfl, row, bel⟩
        have A1_4 := Lib.hid (FS.below bel lA1_3 A1_3.out)
        have lA1_4 := lt_below bel lA1_3
        have Q0_4 := Lib.hid (FS.below bel lQ0_3 Q0_3.out)
        have lQ0_4 := lt_below bel lQ0_3
        have Q1_4 := Lib.hid (FS.row (L := L1) row)
        have lQ1_4 := row.lt
        have B4 := Lib.hid (belowNext (B3.out) bel)
        clear row bel
        go_wp2_with fail
        refine (impl_DotNumbers _ _ _ 0 _ _ _ n1 (fun _ => 0) L1 (by omega) hn1 _ (Q0_4.out) (Q1_4.out)).mono ?_
        rintro e wx ⟨r2, m2, rfl, hr2, rfl⟩
        go_wp2_with (first | (refine wpList_wide some32 Try.underlying28 rfl rfl rfl ?_; intro _ _ _) | (go_at_call 17; refine (sameFloat_of (by assumption) (by assumption) (by assumption) (by assumption) _).mono ?_; rintro e w' ⟨rfl, n, rfl⟩))
        go_wp2_with fail
        refine (laws_toF_nil _ _ _).mono ?_
        rintro e w5 ⟨rfl, row, bel⟩
        have A1_5 := Lib.hid (FS.below bel lA1_4 A1_4.out)
        have lA1_5 := lt_below bel lA1_4
        have Q0_5 := Lib.hid (FS.below bel lQ0_4 Q0_4.out)
        have lQ0_5 := lt_below bel lQ0_4
        have Q1_5 := Lib.hid (FS.below bel lQ1_4 Q1_4.out)
        have lQ1_5 := lt_below bel lQ1_4
        have R0_5 := Lib.hid (FS.row (L := (fun _ => 0)) row)
        have lR0_5 := row.lt
        have B5 := Lib.hid (belowNext (below_drewN B4.out _) bel)
        clear row bel
        go_wp2_with fail
        refine (laws_eqF _ 0 _ _ 0 _ 0 (fun _ => 0) (fun _ => 0) (fun _ => 0) (by omega) _ (Q0_5.out) (R0_5.out) (fun _ _ => ⟨Same.refl _ _, Same.refl _ _⟩)).mono ?_
        rintro e wx ⟨rfl, m3, rfl⟩
        go_wp2_with fail
        refine (laws_toF b1 o1 n1 c1 L1 hn1 _ ?_ ?_).mono ?_
        · exact A1_5.out
        · exact lA1_5
        rintro e w6 ⟨rfl, row, bel⟩
        have A1_6 := Lib.hid (FS.below bel lA1_5 A1_5.out)
        have lA1_6 := lt_below bel lA1_5
        have Q0_6 := Lib.hid (FS.below bel lQ0_5 Q0_5.out)
        have lQ0_6 := lt_below bel lQ0_5
        have Q1_6 := Lib.hid (FS.below bel lQ1_5 Q1_5.out)
        have lQ1_6 := lt_below bel lQ1_5
        have R0_6 := Lib.hid (FS.below bel lR0_5 R0_5.out)
        have lR0_6 := lt_below bel lR0_5
        have R1_6 := Lib.hid (FS.row (L := L1) row)
        have lR1_6 := row.lt
        have B6 := Lib.hid (belowNext (below_drewN B5.out _) bel)
        clear row bel
        go_wp2_with fail
        refine (laws_eqF _ 0 _ _ 0 _ n1 L1 L1 L1 hn1 _ (Q1_6.out) (R1_6.out) (fun _ _ => ⟨Same.refl _ _, Same.refl _ _⟩)).mono ?_
        rintro e wx ⟨rfl, m4, rfl⟩
        go_wp2_with fail
        go_ret
        exact ⟨rfl, below_drewN B6.out _⟩
      ·
        have hh1 : decide (1048576 < (n1 : Int)) = true := decide_eq_true (by omega)
        clear hc1
        go_enter Try.func3, Try.ntmps3
        go_wp2_with fail
        go_ret
        exact ⟨rfl, Below.refl _ _⟩
  ·
    by_cases hn0 : n0 ≤ 1048576
    ·
      have hh0 : decide (1048576 < (n0 : Int)) = false := decide_eq_false (by omega)
      rcases w1 with ⟨a1', c1, rfl⟩ | ⟨b1, o1, n1, c1, L1, rfl, hb1, hnc1, hcm1, hc1⟩
      ·
        have A0_0 := Lib.hid hc0
        have l0_0 : b0 < W.heap.size := hb0
        clear hc0 hb0
        have B0 : Hid (Below W.heap.size W W) := Lib.hid (Below.refl _ _)
        go_enter Try.func3, Try.ntmps3
        go_wp2_with fail
        refine (laws_toF b0 o0 n0 c0 L0 hn0 _ ?_ ?_).mono ?_
        · exact A0_0.out
        · exact l0_0
        rintro e w1 ⟨rfl, row, bel⟩
        have A0_1 := Lib.hid (FS.below bel l0_0 A0_0.out)
        have lA0_1 := lt_below bel l0_0
        have P0_1 := Lib.hid (FS.row (L := L0) row)
        have lP0_1 := row.lt
        have B1 := Lib.hid (belowNext (B0.out) bel)
        clear row bel
        go_wp2_with fail
        refine (laws_toF_nil _ _ _).mono ?_
        rintro e w2 ⟨rfl, row, bel⟩
        have A0_2 := Lib.hid (FS.below bel lA0_1 A0_1.out)
        have lA0_2 := lt_below bel lA0_1
        have P0_2 := Lib.hid (FS.below bel lP0_1 P0_1.out)
        have lP0_2 := lt_below bel lP0_1
        have P1_2 := Lib.hid (FS.row (L := (fun _ => 0)) row)
        have lP1_2 := row.lt
        have B2 := Lib.hid (belowNext (B1.out) bel)
        clear row bel
        go_wp2_with fail
        refine (spec_DotNumbers _ _ _ n0 _ _ _ 0 L0 (fun _ => 0) hn0 (by omega) _ (P0_2.out) (P1_2.out)).mono ?_
        rintro e wx ⟨r1, m1, rfl, hr1, rfl⟩
        go_wp2_with fail
        refine (laws_toF b0 o0 n0 c0 L0 hn0 _ ?_ ?_).mono ?_
        · exact A0_2.out
        · exact lA0_2
        rintro e w3 ⟨rfl, row, bel⟩
        have A0_3 := Lib.hid (FS.below bel lA0_2 A0_2.out)
        have lA0_3 := lt_below bel lA0_2
        have Q0_3 := Lib.hid (FS.row (L := L0) row)
        have lQ0_3 := row.lt
        have B3 := Lib.hid (belowNext (below_drewN B2.out _) bel)
        clear row bel
        go_wp2_with fail
        refine (laws_toF_nil _ _ _).mono ?_
        rintro e w4 ⟨rfl, row, bel⟩
        have A0_4 := Lib.hid (FS.below bel lA0_3 A0_3.out)
        have lA0_4 := lt_below bel lA0_3
        have Q0_4 := Lib.hid (FS.below bel lQ0_3 Q0_3.out)
        have lQ0_4 := lt_below bel lQ0_3
        have Q1_4 := Lib.hid (FS.row (L := (fun _ => 0)) row)
        have lQ1_4 := row.lt
        have B4 := Lib.hid (belowNext (B3.out) bel)
        clear row bel
        go_wp2_with fail
        refine (impl_DotNumbers _ _ _ n0 _ _ _ 0 L0 (fun _ => 0) hn0 (by omega) _ (Q0_4.out) (Q1_4.out)).mono ?_
        rintro e wx ⟨r2, m2, rfl, hr2, rfl⟩
        go_wp2_with (first | (refine wpList_wide some32 Try.underlying28 rfl rfl rfl ?_; intro _ _ _) | (go_at_call 17; refine (sameFloat_of (by assumption) (by assumption) (by assumption) (by assumption) _).mono ?_; rintro e w' ⟨rfl, n, rfl⟩))
        go_wp2_with fail
        refine (laws_toF b0 o0 n0 c0 L0 hn0 _ ?_ ?_).mono ?_
        · exact A0_4.out
        · exact lA0_4
        rintro e w5 ⟨rfl, row, bel⟩
        have A0_5 := Lib.hid (FS.below bel lA0_4 A0_4.out)
        have lA0_5 := lt_below bel lA0_4
        have Q0_5 := Lib.hid (FS.below bel lQ0_4 Q0_4.out)
        have lQ0_5 := lt_below bel lQ0_4
        have Q1_5 := Lib.hid (FS.below bel lQ1_4 Q1_4.out)
        have lQ1_5 := lt_below bel lQ1_4
        have R0_5 := Lib.hid (FS.row (L := L0) row)
        have lR0_5 := row.lt
        have B5 := Lib.hid (belowNext (below_drewN B4.out _) bel)
        clear row bel
        go_wp2_with fail
        refine (laws_eqF _ 0 _ _ 0 _ n0 L0 L0 L0 hn0 _ (Q0_5.out) (R0_5.out) (fun _ _ => ⟨Same.refl _ _, Same.refl _ _⟩)).mono ?_
        rintro e wx ⟨rfl, m3, rfl⟩
        go_wp2_with fail
        refine (laws_toF_nil _ _ _).mono ?_
        rintro e w6 ⟨rfl, row, bel⟩
        have A0_6 := Lib.hid (FS.below bel lA0_5 A0_5.out)
        have lA0_6 := lt_below bel lA0_5
        have Q0_6 := Lib.hid (FS.below bel lQ0_5 Q0_5.out)
        have lQ0_6 := lt_below bel lQ0_5
        have Q1_6 := Lib.hid (FS.below bel lQ1_5 Q1_5.out)
        have lQ1_6 := lt_below bel lQ1_5
        have R0_6 := Lib.hid (FS.below bel lR0_5 R0_5.out)
        have lR0_6 := lt_below bel lR0_5
        have R1_6 := Lib.hid (FS.row (L := (fun _ => 0)) row)
        have lR1_6 := row.lt
        have B6 := Lib.hid (belowNext (below_drewN B5.out _) bel)
        clear row bel
        go_wp2_with fail
        refine (laws_eqF _ 0 _ _ 0 _ 0 (fun _ => 0) (fun _ => 0) (fun _ => 0) (by omega) _ (Q1_6.out) (R1_6.out) (fun _ _ => ⟨Same.refl _ _, Same.refl _ _⟩)).mono ?_
        rintro e wx ⟨rfl, m4, rfl⟩
        go_wp2_with fail
        go_ret
        exact ⟨rfl, below_drewN B6.out _⟩
      ·
        by_cases hn1 : n1 ≤ 1048576
        ·
          have hh1 : decide (1048576 < (n1 : Int)) = false := decide_eq_false (by omega)
          have A0_0 := Lib.hid hc0
          have l0_0 : b0 < W.heap.size := hb0
          have A1_0 := Lib.hid hc1
          have l1_0 : b1 < W.heap.size := hb1
          clear hc0 hb0 hc1 hb1
          have B0 : Hid (Below W.heap.size W W) := Lib.hid (Below.refl _ _)
          go_enter Try.func3, Try.ntmps3
          go_wp2_with fail
          refine (laws_toF b0 o0 n0 c0 L0 hn0 _ ?_ ?_).mono ?_
          · exact A0_0.out
          · exact l0_0
          rintro e w1 ⟨rfl, row, bel⟩
          have A0_1 := Lib.hid (FS.below bel l0_0 A0_0.out)
          have lA0_1 := lt_below bel l0_0
          have A1_1 := Lib.hid (FS.below bel l1_0 A1_0.out)
          have lA1_1 := lt_below bel l1_0
          have P0_1 := Lib.hid (FS.row (L := L0) row)
          have lP0_1 := row.lt
          have B1 := Lib.hid (belowNext (B0.out) bel)
          clear row bel
          go_wp2_with fail
          refine (laws_toF b1 o1 n1 c1 L1 hn1 _ ?_ ?_).mono ?_
          · exact A1_1.out
          · exact lA1_1
          rintro e w2 ⟨rfl, row, bel⟩
          have A0_2 := Lib.hid (FS.below bel lA0_1 A0_1.out)
          have lA0_2 := lt_below bel lA0_1
          have A1_2 := Lib.hid (FS.below bel lA1_1 A1_1.out)
          have lA1_2 := lt_below bel lA1_1
          have P0_2 := Lib.hid (FS.below bel lP0_1 P0_1.out)
          have lP0_2 := lt_below bel lP0_1
          have P1_2 := Lib.hid (FS.row (L := L1) row)
          have lP1_2 := row.lt
          have B2 := Lib.hid (belowNext (B1.out) bel)
          clear row bel
          go_wp2_with fail
          refine (spec_DotNumbers _ _ _ n0 _ _ _ n1 L0 L1 hn0 hn1 _ (P0_2.out) (P1_2.out)).mono ?_
          rintro e wx ⟨r1, m1, rfl, hr1, rfl⟩
          go_wp2_with fail
          refine (laws_toF b0 o0 n0 c0 L0 hn0 _ ?_ ?_).mono ?_
          · exact A0_2.out
          · exact lA0_2
          rintro e w3 ⟨rfl, row, bel⟩
          have A0_3 := Lib.hid (FS.below bel lA0_2 A0_2.out)
          have lA0_3 := lt_below bel lA0_2
          have A1_3 := Lib.hid (FS.below bel lA1_2 A1_2.out)
          have lA1_3 := lt_below bel lA1_2
          have Q0_3 := Lib.hid (FS.row (L := L0) row)
          have lQ0_3 := row.lt
          have B3 := Lib.hid (belowNext (below_drewN B2.out _) bel)
          clear row bel
          go_wp2_with fail
          refine (laws_toF b1 o1 n1 c1 L1 hn1 _ ?_ ?_).mono ?_
          · exact A1_3.out
          · exact lA1_3
          rintro e w4 ⟨rfl, row, bel⟩
          have A0_4 := Lib.hid (FS.below bel lA0_3 A0_3.out)
          have lA0_4 := lt_below bel lA0_3
          have A1_4 := Lib.hid (FS.below bel lA1_3 A1_3.out)
          have lA1_4 := lt_below bel lA1_3
          have Q0_4 := Lib.hid (FS.below bel lQ0_3 Q0_3.out)
          have lQ0_4 := lt_below bel lQ0_3
          have Q1_4 := Lib.hid (FS.row (L := L1) row)
          have lQ1_4 := row.lt
          have B4 := Lib.hid (belowNext (B3.out) bel)
          clear row bel
          go_wp2_with fail
          refine (impl_DotNumbers _ _ _ n0 _ _ _ n1 L0 L1 hn0 hn1 _ (Q0_4.out) (Q1_4.out)).mono ?_
          rintro e wx ⟨r2, m2, rfl, hr2, rfl⟩
          go_wp2_with (first | (refine wpList_wide some32 Try.underlying28 rfl rfl rfl ?_; intro _ _ _) | (go_at_call 17; refine (sameFloat_of (by assumption) (by assumption) (by assumption) (by assumption) _).mono ?_; rintro e w' ⟨rfl, n, rfl⟩))
          go_wp2_with fail
          refine (laws_toF b0 o0 n0 c0 L0 hn0 _ ?_ ?_).mono ?_
          · exact A0_4.out
          · exact lA0_4
          rintro e w5 ⟨rfl, row, bel⟩
          have A0_5 := Lib.hid (FS.below bel lA0_4 A0_4.out)
          have lA0_5 := lt_below bel lA0_4
          have A1_5 := Lib.hid (FS.below bel lA1_4 A1_4.out)
          have lA1_5 := lt_below bel lA1_4
          have Q0_5 := Lib.hid (FS.below bel lQ0_4 Q0_4.out)
          have lQ0_5 := lt_below bel lQ0_4
          have Q1_5 := Lib.hid (FS.below bel lQ1_4 Q1_4.out)
          have lQ1_5 := lt_below bel lQ1_4
          have R0_5 := Lib.hid (FS.row (L := L0) row)
          have lR0_5 := row.lt
          have B5 := Lib.hid (belowNext (below_drewN B4.out _) bel)
          clear row bel
          go_wp2_with fail
          refine (laws_eqF _ 0 _ _ 0 _ n0 L0 L0 L0 hn0 _ (Q0_5.out) (R0_5.out) (fun _ _ => ⟨Same.refl _ _, Same.refl _ _⟩)).mono ?_
          rintro e wx ⟨rfl, m3, rfl⟩
          go_wp2_with fail
          refine (laws_toF b1 o1 n1 c1 L1 hn1 _ ?_ ?_).mono ?_
          · exact A1_5.out
          · exact lA1_5
          rintro e w6 ⟨rfl, row, bel⟩
          have A0_6 := Lib.hid (FS.below bel lA0_5 A0_5.out)
          have lA0_6 := lt_below bel lA0_5
          have A1_6 := Lib.hid (FS.below bel lA1_5 A1_5.out)
          have lA1_6 := lt_below bel lA1_5
          have Q0_6 := Lib.hid (FS.below bel lQ0_5 Q0_5.out)
          have lQ0_6 := lt_below bel lQ0_5
          have Q1_6 := Lib.hid (FS.below bel lQ1_5 Q1_5.out)
          have lQ1_6 := lt_below bel lQ1_5
          have R0_6 := Lib.hid (FS.below bel lR0_5 R0_5.out)
          have lR0_6 := lt_below bel lR0_5
          have R1_6 := Lib.hid (FS.row (L := L1) row)
          have lR1_6 := row.lt
          have B6 := Lib.hid (belowNext (below_drewN B5.out _) bel)
          clear row bel
          go_wp2_with fail
          refine (laws_eqF _ 0 _ _ 0 _ n1 L1 L1 L1 hn1 _ (Q1_6.out) (R1_6.out) (fun _ _ => ⟨Same.refl _ _, Same.refl _ _⟩)).mono ?_
          rintro e wx ⟨rfl, m4, rfl⟩
          go_wp2_with fail
          go_ret
          exact ⟨rfl, below_drewN B6.out _⟩
        ·
          have hh1 : decide (1048576 < (n1 : Int)) = true := decide_eq_true (by omega)
          clear hc1
          go_enter Try.func3, Try.ntmps3
          go_wp2_with fail
          go_ret
          exact ⟨rfl, Below.refl _ _⟩
    ·
      have hh0 : decide (1048576 < (n0 : Int)) = true := decide_eq_true (by omega)
      clear hc0
      go_enter Try.func3, Try.ntmps3
      go_wp2_with fail
      go_ret
      exact ⟨rfl, Below.refl _ _⟩

theorem own : ownKnob Try.prog.godebug = none := by kernel_rfl
theorem laidOut : laidOutB Try.prog = true := by kernel_rfl
set_option maxRecDepth 100000 in
theorem lifted (os : Os) (started : os.Started) (H : Type) (enc : TypeId × Value → H) :
    ReturnsInHanded {} Try.checked os 3 .any (Rows.fnExactDotNumbersSpec.pre6 enc Try.prog Try.f3 Rows.fnExactDotNumbersRow.domain false) (Rows.fnExactDotNumbersSpec.post enc Try.prog Try.f3 false true false false) := by
  refine returnsInHanded_of_change (C := Try.checked) own started (by kernel_rfl) Try.func3
    (ChangeSpec.witness6 (enc := enc) (C := Try.checked) false ⟨#[], #[.slice none 0 0, .slice none 0 0], []⟩ 8 (by kernel_rfl) (by kernel_rfl) (by kernel_rfl) (by kernel_rfl)) ?_
  intro W base args ds gs before hval0 hW hcnd _
  have hval : ∀ (j : Nat) t v, Try.f3.params[j]? = some t → args[j]? = some v → Value.okWide Try.prog W .any base t v := hval0
  have hW' := hW
  obtain ⟨p, q, hA0, hV, rfl, hfz, hnd⟩ := hW
  have hA : DataW.TrodAll enc Try.prog W 0 (fun _ => true) true Try.f3.params.toList args.toList ds p := hA0
  rw [Try.params3] at hA hval
  obtain ⟨v0, vs0, d0, ds0, p0, q0, hargs, rfl, rfl, h0, r0⟩ := trodAll_cons hA
  obtain ⟨v1, vs1, d1, ds1, p1, q1, rfl, rfl, rfl, h1, r1⟩ := trodAll_cons r0
  obtain ⟨rfl, rfl, rfl⟩ := trodAll_nil r1
  obtain rfl : args = #[v0, v1] := by cases args; simp_all
  obtain ⟨rfl, rfl⟩ := trodVars_none hV
  have k0 := h0
  have lt0 : ∀ x ∈ p0, x.block < W.heap.size := by obtain ⟨m, hm⟩ := k0; exact DataW.trod_lt m _ _ _ hm
  obtain ⟨a0, rfl, w0⟩ := opened_F (hval 0 22 v0 rfl rfl) h0
  have k1 := h1
  have lt1 : ∀ x ∈ p1, x.block < W.heap.size := by obtain ⟨m, hm⟩ := k1; exact DataW.trod_lt m _ _ _ hm
  obtain ⟨a1, rfl, w1⟩ := opened_F (hval 1 22 v1 rfl rfl) h1
  clear hA0 hval0
  refine (walk W a0 w0 a1 w1).mono fun e W' ⟨he, bel⟩ => ?_
  subst he
  exact ⟨_, rfl, _, _, _, [], _, [], hW', trodAll_mk1 (shut_bool Try.underlying4 _), (trodAll_cons_mk (Below.trod laidOut (by kernel_rfl) (of_decide_eq_true (by kernel_rfl)) k0 bel lt0) (trodAll_cons_mk (Below.trod laidOut (by kernel_rfl) (of_decide_eq_true (by kernel_rfl)) k1 bel lt1) trodAll_mk0)), rfl, bel.frame _, fun h => by cases h⟩

theorem over : Rows.fnExactDotNumbersRow.holds Try.pinned (OpenSpec.ofChange Rows.fnExactDotNumbersSpec) :=
  OpenClaim.holds_of_wide 3 Try.f3 rfl rfl rfl rfl rfl rfl rfl ⟨rfl, rfl, rfl, rfl, rfl⟩ rfl rfl rfl rfl rfl (by kernel_rfl) Try.func3 (by kernel_rfl)
    (of_decide_eq_true (by kernel_rfl)) (by unfold Func.isWrapper; first | (rw [if_pos (by decide +kernel)]; kernel_rfl) | (rw [if_neg (by decide +kernel)]; exact ⟨rfl, rfl⟩))
    (fun os started H enc _ => lifted os started H enc)

/-- The given statement. -/
theorem proved : Rows.FnExactDotNumbersSaid := over
end Go.Proofs.Ytcmmafkmfahijaa.fnExactDotNumbers
