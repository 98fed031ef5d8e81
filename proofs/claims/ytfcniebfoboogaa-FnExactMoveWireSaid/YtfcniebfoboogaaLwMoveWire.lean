/- The given statement FnExactMoveWire: the program's function and the reference's agree, for every input. Conditions: none beyond the statement's own. -/
import Derived.Test.YtfcniebfoboogaaCht
import Derived.Test.YtfcniebfoboogaaHoldV
import Derived.Test.YtfcniebfoboogaaOpen
import Derived.Test.YtfcniebfoboogaaRows
import Derived.ProofKit
import Derived.OpenShut
import Derived.ShutString
import Derived.ChangeOld
import Derived.Below
import Derived.LoopTactic
import Derived.Deep.RegionHeld3
import Derived.Deep.DeepCutAuto
namespace Go.Proofs.Ytfcniebfoboogaa.fnExactMoveWire
open Go.ChangeShapes Go.WideShapes Go.ChangeAt Go.RowKit
open Go.ChangeMaps (open_string shut_string)
set_option linter.unusedVariables false
set_option maxRecDepth 100000
set_option maxHeartbeats 9600000 in
theorem walk (W : World) (a0 : Value) (w0 : Is_W a0 W) (x1 y1 z1 : Nat) (w1 : x1 < 4294967296 ∧ y1 < 4294967296 ∧ z1 < 4294967296) : Calls Try.prog 13 #[a0, vecV x1 y1 z1] W fun e w' => e = .returned (.bool true) ∧ Below W.heap.size W w' := by
  obtain ⟨a, n, c, cl, cu, P, rfl, hnm, hA, _, _⟩ := w0
  have HA := Lib.hid hA
  clear hA
  by_cases hn : n ≤ 1048576
  · have hpos : decide ((1048576 : Int) - (n : Int) < 0) = false := decide_eq_false (by omega)
    have hN : gN (twoB P (moveP P x1 y1 z1) n cu) n ≤ 1048576 := gN_le fun _ => hn
    have S1 := Lib.hid (fun (X : Nat) (w : World) (h : VS w X 0 n P) => spec_MoveWire X 0 n n cu x1 y1 z1 cl P hnm w h)
    have S2 := Lib.hid (fun (X : Nat) (w : World) (h : VS w X 0 n P) => impl_MoveWire X 0 n n cu x1 y1 z1 cl P hnm w h)
    generalize gN (twoB P (moveP P x1 y1 z1) n cu) n = N at *
    generalize gC (twoB P (moveP P x1 y1 z1) n cu) cl = CL at *
    generalize gN (twoB P (moveP P x1 y1 z1) n cu) cu = CU at *
    generalize twoB P (moveP P x1 y1 z1) n cu = FL at *
    generalize moveP P x1 y1 z1 = R at *
    have neg : decide ((N : Int) * 3 + 1 < 0) = false := decide_eq_false (by omega)
    have nn : (((N : Int) * 3 + 1) != ((N : Int) * 3 + 1)) = false := by simp
    have negn : decide ((n : Int) * 3 + 1 < 0) = false := decide_eq_false (by omega)
    cases FL
    · go_enter Try.func13, Try.ntmps13
      go_wp2_with fail
      refine (laws_szWire a n c cu cl hn _).mono ?_
      rintro e w1 ⟨rfl, bel⟩
      have kv : BoxV (W.heap.size + 1) x1 y1 z1 w1 := by
        have r := newCells bel
        rw [World.size_alloc] at r
        exact ⟨r.1, r.2.1, r.2.2.1⟩
      have kw : Box3 W.heap.size a n c cl cu w1 := Box3.keep bel (Box3.keep (belowAlloc (Below.refl _ _) _) (Box3.new (Below.refl _ _)))
      have A1 : ArgsV W a n c cu cl P x1 y1 z1 w1 := ⟨kw, kv, PtsB.keep bel (PtsB.keep (belowAlloc (belowAlloc (Below.refl _ _) _) _) (PtsB.of HA.out)), belowNext (belowAlloc (belowAlloc (Below.refl W.heap.size W) _) _) bel⟩
      clear bel kv kw
      obtain ⟨K, eK⟩ : ∃ K : World → Prop, K = ArgsV W a n c cu cl P x1 y1 z1 := ⟨_, rfl⟩
      have HK := Lib.hid eK
      have HPT : Hid (∀ w, K w → PtsA w a n P) := Lib.hid (fun w h => ArgsV.pts (by rw [eK] at h; exact h))
      have S0 : S6 W.heap.size (.slice a n c) (.bool cl) (.float .f32 cu) (W.heap.size + 1) (.float .f32 x1) (.float .f32 y1) (.float .f32 z1) K w1 := ⟨A1.1.1, A1.1.2.1, A1.1.2.2, A1.2.1.1, A1.2.1.2.1, A1.2.1.2.2, by rw [eK]; exact A1⟩
      have HL : Hid (Loc (W.heap.size + 1) (S6 W.heap.size (.slice a n c) (.bool cl) (.float .f32 cu) (W.heap.size + 1) (.float .f32 x1) (.float .f32 y1) (.float .f32 z1) K)) := Lib.hid (Loc.s6 (by rw [eK]; exact ArgsV.loc) (Nat.le_succ _) (Nat.le_refl _))
      clear A1 eK
      have Hs0 := Loc.size HL S0
      go_upto_region 5 with (fail)
      go_cut [6, 7] (fun s6 s7 wx => ResV (W.heap.size + 1) N CL CU false R s6 s7 wx ∧ K wx)
      case first =>
        have SN := S1
        go_region_held3 (S6 W.heap.size (.slice a n c) (.bool cl) (.float .f32 cu) (W.heap.size + 1) (.float .f32 x1) (.float .f32 y1) (.float .f32 z1) K) (with_reducible (first | exact S0 | exact Loc.keep HL hb (by assumption) | exact Loc.alloc HL (by assumption) _ | exact Loc.allocD HL (by assumption) _ | exact Loc.drew HL (by assumption) | exact Loc.re HL (by assumption) (by assumption) _ | exact Loc.set HL (Loc.set HL (Loc.set HL (by assumption) (by first | omega | exact RowKit.Hid.out (by assumption))) (by first | omega | exact RowKit.Hid.out (by assumption))) (by first | omega | exact RowKit.Hid.out (by assumption))))
          (first
            | (go_at_call 17; refine (laws_toWireA a n c cu cl P hn _ (HPT.out _ (S6.whole (by with_reducible assumption)))).mono ?_; rintro e wa ⟨Y, rfl, row, hY, hb⟩; have hYa := Lib.hid (NewP.row (P := P) row); clear row hY; have Hsa := Loc.size HL (Loc.keep HL hb (by with_reducible assumption)); have Hza := Lib.hid hb.size; (first | (with_reducible have hnc := newCells hb) | (with_reducible have hnc := newCellsD hb) | (with_reducible have hnc := carryCells (by with_reducible assumption) hb) | skip))
            | (go_at_call 45; refine (laws_toVector _ _ _ _).mono ?_; rintro e wb ⟨rfl, hb⟩; (try (have hYb : Hid (NewP Y n P wb) := Lib.hid (NewP.keep hb (by first | exact hYa.out | exact NewP.keep (belowAlloc (Below.refl _ _) _) hYa.out | exact NewP.keep (Below.drew (Below.refl _ _)) hYa.out)); clear hYa; have hYa := hYb; clear hYb)); have Hsb := Loc.size HL (Loc.keep HL hb (by with_reducible assumption)); have Hzb := Lib.hid hb.size; (first | (with_reducible have hnc := newCells hb) | (with_reducible have hnc := newCellsD hb) | (with_reducible have hnc := carryCells (by with_reducible assumption) hb) | skip))
            | (go_at_call 44; refine (SN.out Y _ (show VS _ _ _ _ _ from (by first | exact hYa.out.1 | exact (NewP.keep (belowAlloc (Below.refl _ _) _) hYa.out).1))).mono ?_; rintro e wd ⟨p, cc, B, rfl, r, l, m, hb⟩; have hR := Lib.hid (And.intro r (And.intro l m)); clear r l m; have Hsd := Loc.size HL (Loc.keep HL hb (by with_reducible assumption)); have Hzd := Lib.hid hb.size; (first | (with_reducible have hnc := newCells hb) | (with_reducible have hnc := newCellsD hb) | (with_reducible have hnc := carryCells (by with_reducible assumption) hb) | skip)))
        all_goals (go_wp2_with fail; go_meet; refine ⟨?_, S6.whole (by with_reducible assumption)⟩; have t0 := hR.out.2.1; (try rw [drewSize] at t0); (try simp only [World.size_alloc] at t0); (try have u0 := Hza.out); (try rw [drewSize] at u0); (try simp only [World.size_alloc] at u0); (try have u1 := Hzb.out); (try rw [drewSize] at u1); (try simp only [World.size_alloc] at u1); (try have u2 := Hs0.out); (try rw [drewSize] at u2); (try simp only [World.size_alloc] at u2); (try have u3 := Hsa.out); (try rw [drewSize] at u3); (try simp only [World.size_alloc] at u3); (try have u4 := Hsb.out); (try rw [drewSize] at u4); (try simp only [World.size_alloc] at u4); (have lB : W.heap.size + 1 < B := by omega); (first | exact ResV.new hR.out.1 lB hR.out.2.2 | exact ResV.set hnc hR.out.1 lB hR.out.2.2 (by omega) (by omega)))
      case rest =>
        obtain ⟨⟨p0, c0, B0, b0, rfl, rfl, k0, r0, _, o0, o1, m0⟩, hK⟩ := hcut
        rw [HK.out] at hK
        have H5 := Lib.hid (And.intro hK (And.intro k0 (And.intro r0 (And.intro o0 (And.intro o1 m0)))))
        clear k0 r0 o0 o1 m0 hK S0 HL HPT HK Hs0
        obtain ⟨⟨⟨k0, k1, k2⟩, ⟨h0, h1, h2⟩, _⟩, _⟩ := H5.out
        go_upto_region 6 with (fail)
        go_cut [8] (fun s8 wx => ∃ X bx, s8 = .pointer (some ⟨bx, 0, none⟩) ∧ Ord0 W B0 b0 X bx ∧ M0 W a n c cu cl P x1 y1 z1 N CL CU R p0 c0 B0 b0 P X bx wx)
        case first =>
          go_wp2_with fail
          refine (laws_toWireA a n c cu cl P hn _ H5.out.1.pts).mono ?_
          rintro e w2 ⟨X, rfl, row, hX, bel⟩
          have lb0 : b0 < wc.heap.size := World.block_lt_of_cell? _ _ H5.out.2.1.1
          have wr := WRow.row (P := P) row
          have OR : Hid (Ord0 W B0 b0 X w2.heap.size) := Lib.hid ⟨H5.out.2.2.2.1, H5.out.2.2.2.2.1, Nat.lt_of_lt_of_le H5.out.2.2.2.2.2 hX, Nat.lt_of_lt_of_le lb0 hX, wr.lt⟩
          have HB := Lib.hid bel
          have HW := Lib.hid wr
          clear row hX bel k0 k1 k2 h0 h1 h2 wr lb0
          go_wp2_with fail
          go_meet
          exact ⟨X, w2.heap.size, rfl, OR.out, Loc.alloc (Lib.hid ArgsV.loc) (Loc.keep (Lib.hid ArgsV.loc) HB.out H5.out.1) _, Loc.alloc (Lib.hid (Loc.box3 _ _ _ _ _ _)) (Loc.keep (Lib.hid (Loc.box3 _ _ _ _ _ _)) HB.out H5.out.2.1) _, (H5.out.2.2.1.keep HB.out).keep (belowAlloc (Below.refl _ _) _), Box3.new (Below.refl _ _), HW.out.keep (belowAlloc (Below.refl _ _) _)⟩
        case rest =>
        obtain ⟨X, bx, rfl, hO, mm⟩ := hcut
        have OR := Lib.hid hO
        clear hO H5 k0 k1 k2 h0 h1 h2
        obtain ⟨K, eK⟩ : ∃ K : World → Prop, K = M0 W a n c cu cl P x1 y1 z1 N CL CU R p0 c0 B0 b0 P X bx := ⟨_, rfl⟩
        have HK := Lib.hid eK
        have HVS : Hid (∀ w, K w → VS w X 0 n P) := Lib.hid (fun w h => by rw [eK] at h; exact h.2.2.2.2.vs)
        have S0 : S6 bx (.slice (some ⟨X, 0, none⟩) n n) (.bool cl) (.float .f32 cu) (W.heap.size + 1) (.float .f32 x1) (.float .f32 y1) (.float .f32 z1) K wc := ⟨mm.2.2.2.1.1, mm.2.2.2.1.2.1, mm.2.2.2.1.2.2, mm.1.2.1.1, mm.1.2.1.2.1, mm.1.2.1.2.2, by rw [eK]; exact mm⟩
        have HL : Hid (Loc bx (S6 bx (.slice (some ⟨X, 0, none⟩) n n) (.bool cl) (.float .f32 cu) (W.heap.size + 1) (.float .f32 x1) (.float .f32 y1) (.float .f32 z1) K)) := Lib.hid (Loc.s6 (by rw [eK]; exact M0.loc OR.out) (Nat.le_refl _) (by have := OR.out; unfold Ord0 at this; omega))
        clear mm eK
        have Hs0 := Loc.size HL S0
        go_upto_region 7 with (fail)
        go_cut [9, 10] (fun s9 s10 wx => ResV bx N CL CU false R s9 s10 wx ∧ K wx)
        case first =>
          have SN := S2
          go_region_held3 (S6 bx (.slice (some ⟨X, 0, none⟩) n n) (.bool cl) (.float .f32 cu) (W.heap.size + 1) (.float .f32 x1) (.float .f32 y1) (.float .f32 z1) K) (with_reducible (first | exact S0 | exact Loc.keep HL hb (by assumption) | exact Loc.alloc HL (by assumption) _ | exact Loc.allocD HL (by assumption) _ | exact Loc.drew HL (by assumption) | exact Loc.re HL (by assumption) (by assumption) _ | exact Loc.set HL (Loc.set HL (Loc.set HL (by assumption) (by first | omega | exact RowKit.Hid.out (by assumption))) (by first | omega | exact RowKit.Hid.out (by assumption))) (by first | omega | exact RowKit.Hid.out (by assumption))))
            (first
              | (go_at_call 45; refine (laws_toVector _ _ _ _).mono ?_; rintro e wb ⟨rfl, hb⟩; (try (have hYb : Hid (NewP Y n P wb) := Lib.hid (NewP.keep hb (by first | exact hYa.out | exact NewP.keep (belowAlloc (Below.refl _ _) _) hYa.out | exact NewP.keep (Below.drew (Below.refl _ _)) hYa.out)); clear hYa; have hYa := hYb; clear hYb)); have Hsb := Loc.size HL (Loc.keep HL hb (by with_reducible assumption)); have Hzb := Lib.hid hb.size; (first | (with_reducible have hnc := newCells hb) | (with_reducible have hnc := newCellsD hb) | (with_reducible have hnc := carryCells (by with_reducible assumption) hb) | skip))
              | (go_at_call 46; refine (SN.out X _ (HVS.out _ (S6.whole (by with_reducible assumption)))).mono ?_; rintro e wd ⟨p, cc, B, rfl, r, l, m, hb⟩; have hR := Lib.hid (And.intro r (And.intro l m)); clear r l m; have Hsd := Loc.size HL (Loc.keep HL hb (by with_reducible assumption)); have Hzd := Lib.hid hb.size; (first | (with_reducible have hnc := newCells hb) | (with_reducible have hnc := newCellsD hb) | (with_reducible have hnc := carryCells (by with_reducible assumption) hb) | skip)))
          all_goals (go_wp2_with fail; go_meet; refine ⟨?_, S6.whole (by with_reducible assumption)⟩; have t0 := hR.out.2.1; (try rw [drewSize] at t0); (try simp only [World.size_alloc] at t0); (try have u0 := Hzb.out); (try rw [drewSize] at u0); (try simp only [World.size_alloc] at u0); (try have u1 := Hs0.out); (try rw [drewSize] at u1); (try simp only [World.size_alloc] at u1); (try have u2 := Hsb.out); (try rw [drewSize] at u2); (try simp only [World.size_alloc] at u2); (have lB : bx < B := by omega); (first | exact ResV.new hR.out.1 lB hR.out.2.2 | exact ResV.set hnc hR.out.1 lB hR.out.2.2 (by omega) (by omega)))
        case rest =>
          obtain ⟨⟨p1, c1, B1, b1, rfl, rfl, k0, r0, n0, o0, o1, m0⟩, hK⟩ := hcut
          rw [HK.out] at hK
          have O1 : Hid (Ord1 W B0 b0 X bx B1 b1) := Lib.hid ⟨OR.out, o0, o1, n0⟩
          have L5 : Hid (M1 W a n c cu cl P x1 y1 z1 N CL CU R p0 c0 B0 b0 P X bx p1 c1 B1 b1 R wc) := Lib.hid ⟨hK, k0, r0, m0⟩
          clear S0 HL HVS HK Hs0 k0 r0 n0 o0 o1 m0 hK OR
          obtain ⟨⟨_, ⟨k0, k1, k2⟩, _⟩, ⟨j0, j1, j2⟩, _⟩ := L5.out
          go_wp2_with fail
          refine (laws_eqWireA p1 p0 c1 c0 N CU CL R hN _ L5.out.2.2.1.pts L5.out.1.2.2.1.pts).mono ?_
          rintro e w6 ⟨rfl, bel⟩
          have L6 := Loc.keep (Lib.hid (M1.loc O1.out)) bel L5.out
          clear k0 k1 k2 j0 j1 j2 bel L5
          obtain ⟨K, eK⟩ : ∃ K : World → Prop, K = M1 W a n c cu cl P x1 y1 z1 N CL CU R p0 c0 B0 b0 P X bx p1 c1 B1 b1 R := ⟨_, rfl⟩
          have HK := Lib.hid eK
          have HPT : Hid (∀ w, K w → PtsA w a n P) := Lib.hid (fun w h => by rw [eK] at h; exact h.1.1.pts)
          have HXT : Hid (∀ w, K w → PtsA w (some ⟨X, 0, none⟩) n P) := Lib.hid (fun w h => by rw [eK] at h; exact .inr ⟨X, 0, rfl, h.1.2.2.2.2.vs, h.1.2.2.2.2.lt⟩)
          have S0 : S6 bx (.slice (some ⟨X, 0, none⟩) n n) (.bool cl) (.float .f32 cu) W.heap.size (.slice a n c) (.bool cl) (.float .f32 cu) K w6 := ⟨L6.1.2.2.2.1.1, L6.1.2.2.2.1.2.1, L6.1.2.2.2.1.2.2, L6.1.1.1.1, L6.1.1.1.2.1, L6.1.1.1.2.2, by rw [eK]; exact L6⟩
          have HL : Hid (Loc (max B1 b1) (S6 bx (.slice (some ⟨X, 0, none⟩) n n) (.bool cl) (.float .f32 cu) W.heap.size (.slice a n c) (.bool cl) (.float .f32 cu) K)) := Lib.hid (Loc.s6 (by rw [eK]; exact M1.loc O1.out) (by have := O1.out; unfold Ord1 Ord0 at this; omega) (by have := O1.out; unfold Ord1 Ord0 at this; omega))
          clear L6 eK
          go_wp2_with fail
          go_region_held3 (S6 bx (.slice (some ⟨X, 0, none⟩) n n) (.bool cl) (.float .f32 cu) W.heap.size (.slice a n c) (.bool cl) (.float .f32 cu) K) (with_reducible (first | exact S0 | exact Loc.keep HL hb (by assumption) | exact Loc.alloc HL (by assumption) _ | exact Loc.allocD HL (by assumption) _ | exact Loc.drew HL (by assumption) | exact Loc.re HL (by assumption) (by assumption) _ | exact Loc.set HL (Loc.set HL (Loc.set HL (by assumption) (by first | omega | exact RowKit.Hid.out (by assumption))) (by first | omega | exact RowKit.Hid.out (by assumption))) (by first | omega | exact RowKit.Hid.out (by assumption))))
            (first
              | (go_at_call 17; refine (laws_toWireA a n c cu cl P hn _ (HPT.out _ (S6.whole (by with_reducible assumption)))).mono ?_; rintro e w7 ⟨Y, rfl, row, hY, hb⟩; have hYH := Lib.hid (NewP.row (P := P) row); clear row)
              | (go_at_call 19; refine (laws_eqWireA _ _ _ _ n cu cl P hn _ (HXT.out _ (S6.whole (by with_reducible assumption))) (.inr ⟨Y, 0, rfl, hYH.out.1, hYH.out.2⟩)).mono ?_; rintro e w8 ⟨rfl, hb⟩))
          have L8 := Lib.hid (S6.whole (show S6 bx (.slice (some ⟨X, 0, none⟩) n n) (.bool cl) (.float .f32 cu) W.heap.size (.slice a n c) (.bool cl) (.float .f32 cu) K w8 by with_reducible assumption))
          rw [HK.out] at L8
          clear hb hYH S0 HL HPT HXT HK
          obtain ⟨⟨_, _, _, ⟨k0, k1, k2⟩, _⟩, _⟩ := L8.out
          go_wp2_with fail
          refine (laws_markWire (some ⟨X, 0, none⟩) n n cu X cl P hn _ (.inr ⟨rfl, L8.out.1.2.2.2.2⟩)).mono ?_
          rintro e w9 ⟨rfl, hr, has⟩
          have L9 := Lib.hid (M1.markX has O1.out hr.whole L8.out)
          clear hr has k0 k1 k2 L8
          obtain ⟨⟨_, ⟨k0, k1, k2⟩, _⟩, ⟨j0, j1, j2⟩, _⟩ := L9.out
          go_wp2_with fail
          refine (laws_eqWireA p1 p0 c1 c0 N CU CL R hN _ L9.out.2.2.1.pts L9.out.1.2.2.1.pts).mono ?_
          rintro e w10 ⟨rfl, bel⟩
          have L10 := Lib.hid (Loc.keep (Lib.hid (M1.loc O1.out)) bel L9.out)
          clear k0 k1 k2 j0 j1 j2 bel L9
          obtain ⟨⟨_, ⟨k0, k1, k2⟩, _⟩, ⟨j0, j1, j2⟩, _⟩ := L10.out
          go_wp2_with fail
          refine (laws_markWire p1 N c1 CU B1 CL R hN _ L10.out.2.2.1).mono ?_
          rintro e w11 ⟨rfl, hr, has⟩
          have L11 := Lib.hid (M1.markG has O1.out hr L10.out)
          clear k0 k1 k2 j0 j1 j2 hr has L10
          obtain ⟨⟨_, ⟨k0, k1, k2⟩, _⟩, ⟨j0, j1, j2⟩, _⟩ := L11.out
          go_wp2_with fail
          refine (laws_heldWire p1 N c1 CU B1 CL hN _ L11.out.2.2.1).mono ?_
          rintro e w12 ⟨rfl, bel⟩
          have L12 := Loc.keep (Lib.hid (M1.loc O1.out)) bel L11.out
          clear k0 k1 k2 j0 j1 j2 bel L11
          obtain ⟨K, eK⟩ : ∃ K : World → Prop, K = M1 W a n c cu cl P x1 y1 z1 N CL CU R p0 c0 B0 b0 (markP 1) X bx p1 c1 B1 b1 (markP 1) := ⟨_, rfl⟩
          have HK := Lib.hid eK
          have HPT : Hid (∀ w, K w → PtsA w a n P) := Lib.hid (fun w h => by rw [eK] at h; exact h.1.1.pts)
          have S0 : S6 W.heap.size (.slice a n c) (.bool cl) (.float .f32 cu) (W.heap.size + 1) (.float .f32 x1) (.float .f32 y1) (.float .f32 z1) K w12 := ⟨L12.1.1.1.1, L12.1.1.1.2.1, L12.1.1.1.2.2, L12.1.1.2.1.1, L12.1.1.2.1.2.1, L12.1.1.2.1.2.2, by rw [eK]; exact L12⟩
          have HL : Hid (Loc (max B1 b1) (S6 W.heap.size (.slice a n c) (.bool cl) (.float .f32 cu) (W.heap.size + 1) (.float .f32 x1) (.float .f32 y1) (.float .f32 z1) K)) := Lib.hid (Loc.s6 (by rw [eK]; exact M1.loc O1.out) (by have := O1.out; unfold Ord1 Ord0 at this; omega) (by have := O1.out; unfold Ord1 Ord0 at this; omega))
          clear L12 eK
          have Hs0 := Loc.size HL S0
          go_upto_region 24 with (fail)
          go_cut [14, 15] (fun s14 s15 wx => ResV (max B1 b1) N CL CU false R s14 s15 wx ∧ K wx)
          case first =>
            have SN := S2
            go_region_held3 (S6 W.heap.size (.slice a n c) (.bool cl) (.float .f32 cu) (W.heap.size + 1) (.float .f32 x1) (.float .f32 y1) (.float .f32 z1) K) (with_reducible (first | exact S0 | exact Loc.keep HL hb (by assumption) | exact Loc.alloc HL (by assumption) _ | exact Loc.allocD HL (by assumption) _ | exact Loc.drew HL (by assumption) | exact Loc.re HL (by assumption) (by assumption) _ | exact Loc.set HL (Loc.set HL (Loc.set HL (by assumption) (by first | omega | exact RowKit.Hid.out (by assumption))) (by first | omega | exact RowKit.Hid.out (by assumption))) (by first | omega | exact RowKit.Hid.out (by assumption))))
              (first
                | (go_at_call 17; refine (laws_toWireA a n c cu cl P hn _ (HPT.out _ (S6.whole (by with_reducible assumption)))).mono ?_; rintro e wa ⟨Y, rfl, row, hY, hb⟩; have hYa := Lib.hid (NewP.row (P := P) row); clear row hY; have Hsa := Loc.size HL (Loc.keep HL hb (by with_reducible assumption)); have Hza := Lib.hid hb.size; (first | (with_reducible have hnc := newCells hb) | (with_reducible have hnc := newCellsD hb) | (with_reducible have hnc := carryCells (by with_reducible assumption) hb) | skip))
                | (go_at_call 45; refine (laws_toVector _ _ _ _).mono ?_; rintro e wb ⟨rfl, hb⟩; (try (have hYb : Hid (NewP Y n P wb) := Lib.hid (NewP.keep hb (by first | exact hYa.out | exact NewP.keep (belowAlloc (Below.refl _ _) _) hYa.out | exact NewP.keep (Below.drew (Below.refl _ _)) hYa.out)); clear hYa; have hYa := hYb; clear hYb)); have Hsb := Loc.size HL (Loc.keep HL hb (by with_reducible assumption)); have Hzb := Lib.hid hb.size; (first | (with_reducible have hnc := newCells hb) | (with_reducible have hnc := newCellsD hb) | (with_reducible have hnc := carryCells (by with_reducible assumption) hb) | skip))
                | (go_at_call 46; refine (SN.out Y _ (show VS _ _ _ _ _ from (by first | exact hYa.out.1 | exact (NewP.keep (belowAlloc (Below.refl _ _) _) hYa.out).1))).mono ?_; rintro e wd ⟨p, cc, B, rfl, r, l, m, hb⟩; have hR := Lib.hid (And.intro r (And.intro l m)); clear r l m; have Hsd := Loc.size HL (Loc.keep HL hb (by with_reducible assumption)); have Hzd := Lib.hid hb.size; (first | (with_reducible have hnc := newCells hb) | (with_reducible have hnc := newCellsD hb) | (with_reducible have hnc := carryCells (by with_reducible assumption) hb) | skip)))
            all_goals (go_wp2_with fail; go_meet; refine ⟨?_, S6.whole (by with_reducible assumption)⟩; have t0 := hR.out.2.1; (try rw [drewSize] at t0); (try simp only [World.size_alloc] at t0); (try have u0 := Hza.out); (try rw [drewSize] at u0); (try simp only [World.size_alloc] at u0); (try have u1 := Hzb.out); (try rw [drewSize] at u1); (try simp only [World.size_alloc] at u1); (try have u2 := Hs0.out); (try rw [drewSize] at u2); (try simp only [World.size_alloc] at u2); (try have u3 := Hsa.out); (try rw [drewSize] at u3); (try simp only [World.size_alloc] at u3); (try have u4 := Hsb.out); (try rw [drewSize] at u4); (try simp only [World.size_alloc] at u4); (have lB : max B1 b1 < B := by omega); (first | exact ResV.new hR.out.1 lB hR.out.2.2 | exact ResV.set hnc hR.out.1 lB hR.out.2.2 (by omega) (by omega)))
          case rest =>
            obtain ⟨⟨p2, c2, B2, b2, rfl, rfl, i0, r2, _, _, _, _⟩, hK⟩ := hcut
            rw [HK.out] at hK
            have L14 := Lib.hid hK
            have H14 := Lib.hid r2
            clear hK r2 S0 HL HPT HK Hs0
            obtain ⟨i0, i1, i2⟩ := i0
            obtain ⟨⟨_, ⟨k0, k1, k2⟩, _⟩, ⟨j0, j1, j2⟩, _⟩ := L14.out
            go_wp2_with fail
            refine (laws_eqWireA p2 p0 c2 c0 N CU CL R hN _ H14.out.pts L14.out.1.2.2.1.pts).mono ?_
            rintro e w15 ⟨rfl, bel⟩
            have L15 := Lib.hid (Loc.keep (Lib.hid (M1.loc O1.out)) bel L14.out)
            clear k0 k1 k2 j0 j1 j2 i0 i1 i2 bel L14 H14
            obtain ⟨⟨_, ⟨k0, k1, k2⟩, _⟩, ⟨j0, j1, j2⟩, _⟩ := L15.out
            go_wp2_with fail
            refine (laws_heldWire p1 N c1 CU B1 CL hN _ L15.out.2.2.1).mono ?_
            rintro e w16 ⟨rfl, bel⟩
            have L16 := Lib.hid (Loc.keep (Lib.hid (M1.loc O1.out)) bel L15.out)
            clear k0 k1 k2 j0 j1 j2 bel L15
            go_wp2_with fail
            go_ret
            exact ⟨rfl, L16.out.1.1.2.2.2⟩
    · go_enter Try.func13, Try.ntmps13
      go_wp2_with fail
      refine (laws_szWire a n c cu cl hn _).mono ?_
      rintro e w1 ⟨rfl, bel⟩
      have kv : BoxV (W.heap.size + 1) x1 y1 z1 w1 := by
        have r := newCells bel
        rw [World.size_alloc] at r
        exact ⟨r.1, r.2.1, r.2.2.1⟩
      have kw : Box3 W.heap.size a n c cl cu w1 := Box3.keep bel (Box3.keep (belowAlloc (Below.refl _ _) _) (Box3.new (Below.refl _ _)))
      have A1 : ArgsV W a n c cu cl P x1 y1 z1 w1 := ⟨kw, kv, PtsB.keep bel (PtsB.keep (belowAlloc (belowAlloc (Below.refl _ _) _) _) (PtsB.of HA.out)), belowNext (belowAlloc (belowAlloc (Below.refl W.heap.size W) _) _) bel⟩
      clear bel kv kw
      obtain ⟨K, eK⟩ : ∃ K : World → Prop, K = ArgsV W a n c cu cl P x1 y1 z1 := ⟨_, rfl⟩
      have HK := Lib.hid eK
      have HPT : Hid (∀ w, K w → PtsA w a n P) := Lib.hid (fun w h => ArgsV.pts (by rw [eK] at h; exact h))
      have S0 : S6 W.heap.size (.slice a n c) (.bool cl) (.float .f32 cu) (W.heap.size + 1) (.float .f32 x1) (.float .f32 y1) (.float .f32 z1) K w1 := ⟨A1.1.1, A1.1.2.1, A1.1.2.2, A1.2.1.1, A1.2.1.2.1, A1.2.1.2.2, by rw [eK]; exact A1⟩
      have HL : Hid (Loc (W.heap.size + 1) (S6 W.heap.size (.slice a n c) (.bool cl) (.float .f32 cu) (W.heap.size + 1) (.float .f32 x1) (.float .f32 y1) (.float .f32 z1) K)) := Lib.hid (Loc.s6 (by rw [eK]; exact ArgsV.loc) (Nat.le_succ _) (Nat.le_refl _))
      clear A1 eK
      have Hs0 := Loc.size HL S0
      go_upto_region 5 with (fail)
      go_cut [6, 7] (fun s6 s7 wx => ResV (W.heap.size + 1) N CL CU true R s6 s7 wx ∧ K wx)
      case first =>
        have SN := S1
        go_region_held3 (S6 W.heap.size (.slice a n c) (.bool cl) (.float .f32 cu) (W.heap.size + 1) (.float .f32 x1) (.float .f32 y1) (.float .f32 z1) K) (with_reducible (first | exact S0 | exact Loc.keep HL hb (by assumption) | exact Loc.alloc HL (by assumption) _ | exact Loc.allocD HL (by assumption) _ | exact Loc.drew HL (by assumption) | exact Loc.re HL (by assumption) (by assumption) _ | exact Loc.set HL (Loc.set HL (Loc.set HL (by assumption) (by first | omega | exact RowKit.Hid.out (by assumption))) (by first | omega | exact RowKit.Hid.out (by assumption))) (by first | omega | exact RowKit.Hid.out (by assumption))))
          (first
            | (go_at_call 17; refine (laws_toWireA a n c cu cl P hn _ (HPT.out _ (S6.whole (by with_reducible assumption)))).mono ?_; rintro e wa ⟨Y, rfl, row, hY, hb⟩; have hYa := Lib.hid (NewP.row (P := P) row); clear row hY; have Hsa := Loc.size HL (Loc.keep HL hb (by with_reducible assumption)); have Hza := Lib.hid hb.size; (first | (with_reducible have hnc := newCells hb) | (with_reducible have hnc := newCellsD hb) | (with_reducible have hnc := carryCells (by with_reducible assumption) hb) | skip))
            | (go_at_call 45; refine (laws_toVector _ _ _ _).mono ?_; rintro e wb ⟨rfl, hb⟩; (try (have hYb : Hid (NewP Y n P wb) := Lib.hid (NewP.keep hb (by first | exact hYa.out | exact NewP.keep (belowAlloc (Below.refl _ _) _) hYa.out | exact NewP.keep (Below.drew (Below.refl _ _)) hYa.out)); clear hYa; have hYa := hYb; clear hYb)); have Hsb := Loc.size HL (Loc.keep HL hb (by with_reducible assumption)); have Hzb := Lib.hid hb.size; (first | (with_reducible have hnc := newCells hb) | (with_reducible have hnc := newCellsD hb) | (with_reducible have hnc := carryCells (by with_reducible assumption) hb) | skip))
            | (go_at_call 44; refine (SN.out Y _ (show VS _ _ _ _ _ from (by first | exact hYa.out.1 | exact (NewP.keep (belowAlloc (Below.refl _ _) _) hYa.out).1))).mono ?_; rintro e wd ⟨p, cc, B, rfl, r, l, m, hb⟩; have hR := Lib.hid (And.intro r (And.intro l m)); clear r l m; have Hsd := Loc.size HL (Loc.keep HL hb (by with_reducible assumption)); have Hzd := Lib.hid hb.size; (first | (with_reducible have hnc := newCells hb) | (with_reducible have hnc := newCellsD hb) | (with_reducible have hnc := carryCells (by with_reducible assumption) hb) | skip)))
        all_goals (go_wp2_with fail; go_meet; refine ⟨?_, S6.whole (by with_reducible assumption)⟩; have t0 := hR.out.2.1; (try rw [drewSize] at t0); (try simp only [World.size_alloc] at t0); (try have u0 := Hza.out); (try rw [drewSize] at u0); (try simp only [World.size_alloc] at u0); (try have u1 := Hzb.out); (try rw [drewSize] at u1); (try simp only [World.size_alloc] at u1); (try have u2 := Hs0.out); (try rw [drewSize] at u2); (try simp only [World.size_alloc] at u2); (try have u3 := Hsa.out); (try rw [drewSize] at u3); (try simp only [World.size_alloc] at u3); (try have u4 := Hsb.out); (try rw [drewSize] at u4); (try simp only [World.size_alloc] at u4); (have lB : W.heap.size + 1 < B := by omega); (first | exact ResV.new hR.out.1 lB hR.out.2.2 | exact ResV.set hnc hR.out.1 lB hR.out.2.2 (by omega) (by omega)))
      case rest =>
        obtain ⟨⟨p0, c0, B0, b0, rfl, rfl, k0, r0, _, o0, o1, m0⟩, hK⟩ := hcut
        rw [HK.out] at hK
        have H5 := Lib.hid (And.intro hK (And.intro k0 (And.intro r0 (And.intro o0 (And.intro o1 m0)))))
        clear k0 r0 o0 o1 m0 hK S0 HL HPT HK Hs0
        obtain ⟨⟨⟨k0, k1, k2⟩, ⟨h0, h1, h2⟩, _⟩, _⟩ := H5.out
        go_upto_region 6 with (fail)
        go_cut [8] (fun s8 wx => ∃ X bx, s8 = .pointer (some ⟨bx, 0, none⟩) ∧ Ord0 W B0 b0 X bx ∧ M0 W a n c cu cl P x1 y1 z1 N CL CU R p0 c0 B0 b0 P X bx wx)
        case first =>
          go_wp2_with fail
          refine (laws_toWireA a n c cu cl P hn _ H5.out.1.pts).mono ?_
          rintro e w2 ⟨X, rfl, row, hX, bel⟩
          have lb0 : b0 < wc.heap.size := World.block_lt_of_cell? _ _ H5.out.2.1.1
          have wr := WRow.row (P := P) row
          have OR : Hid (Ord0 W B0 b0 X w2.heap.size) := Lib.hid ⟨H5.out.2.2.2.1, H5.out.2.2.2.2.1, Nat.lt_of_lt_of_le H5.out.2.2.2.2.2 hX, Nat.lt_of_lt_of_le lb0 hX, wr.lt⟩
          have HB := Lib.hid bel
          have HW := Lib.hid wr
          clear row hX bel k0 k1 k2 h0 h1 h2 wr lb0
          go_wp2_with fail
          go_meet
          exact ⟨X, w2.heap.size, rfl, OR.out, Loc.alloc (Lib.hid ArgsV.loc) (Loc.keep (Lib.hid ArgsV.loc) HB.out H5.out.1) _, Loc.alloc (Lib.hid (Loc.box3 _ _ _ _ _ _)) (Loc.keep (Lib.hid (Loc.box3 _ _ _ _ _ _)) HB.out H5.out.2.1) _, (H5.out.2.2.1.keep HB.out).keep (belowAlloc (Below.refl _ _) _), Box3.new (Below.refl _ _), HW.out.keep (belowAlloc (Below.refl _ _) _)⟩
        case rest =>
        obtain ⟨X, bx, rfl, hO, mm⟩ := hcut
        have OR := Lib.hid hO
        clear hO H5 k0 k1 k2 h0 h1 h2
        obtain ⟨K, eK⟩ : ∃ K : World → Prop, K = M0 W a n c cu cl P x1 y1 z1 N CL CU R p0 c0 B0 b0 P X bx := ⟨_, rfl⟩
        have HK := Lib.hid eK
        have HVS : Hid (∀ w, K w → VS w X 0 n P) := Lib.hid (fun w h => by rw [eK] at h; exact h.2.2.2.2.vs)
        have S0 : S6 bx (.slice (some ⟨X, 0, none⟩) n n) (.bool cl) (.float .f32 cu) (W.heap.size + 1) (.float .f32 x1) (.float .f32 y1) (.float .f32 z1) K wc := ⟨mm.2.2.2.1.1, mm.2.2.2.1.2.1, mm.2.2.2.1.2.2, mm.1.2.1.1, mm.1.2.1.2.1, mm.1.2.1.2.2, by rw [eK]; exact mm⟩
        have HL : Hid (Loc bx (S6 bx (.slice (some ⟨X, 0, none⟩) n n) (.bool cl) (.float .f32 cu) (W.heap.size + 1) (.float .f32 x1) (.float .f32 y1) (.float .f32 z1) K)) := Lib.hid (Loc.s6 (by rw [eK]; exact M0.loc OR.out) (Nat.le_refl _) (by have := OR.out; unfold Ord0 at this; omega))
        clear mm eK
        have Hs0 := Loc.size HL S0
        go_upto_region 7 with (fail)
        go_cut [9, 10] (fun s9 s10 wx => ResV bx N CL CU true R s9 s10 wx ∧ K wx)
        case first =>
          have SN := S2
          go_region_held3 (S6 bx (.slice (some ⟨X, 0, none⟩) n n) (.bool cl) (.float .f32 cu) (W.heap.size + 1) (.float .f32 x1) (.float .f32 y1) (.float .f32 z1) K) (with_reducible (first | exact S0 | exact Loc.keep HL hb (by assumption) | exact Loc.alloc HL (by assumption) _ | exact Loc.allocD HL (by assumption) _ | exact Loc.drew HL (by assumption) | exact Loc.re HL (by assumption) (by assumption) _ | exact Loc.set HL (Loc.set HL (Loc.set HL (by assumption) (by first | omega | exact RowKit.Hid.out (by assumption))) (by first | omega | exact RowKit.Hid.out (by assumption))) (by first | omega | exact RowKit.Hid.out (by assumption))))
            (first
              | (go_at_call 45; refine (laws_toVector _ _ _ _).mono ?_; rintro e wb ⟨rfl, hb⟩; (try (have hYb : Hid (NewP Y n P wb) := Lib.hid (NewP.keep hb (by first | exact hYa.out | exact NewP.keep (belowAlloc (Below.refl _ _) _) hYa.out | exact NewP.keep (Below.drew (Below.refl _ _)) hYa.out)); clear hYa; have hYa := hYb; clear hYb)); have Hsb := Loc.size HL (Loc.keep HL hb (by with_reducible assumption)); have Hzb := Lib.hid hb.size; (first | (with_reducible have hnc := newCells hb) | (with_reducible have hnc := newCellsD hb) | (with_reducible have hnc := carryCells (by with_reducible assumption) hb) | skip))
              | (go_at_call 46; refine (SN.out X _ (HVS.out _ (S6.whole (by with_reducible assumption)))).mono ?_; rintro e wd ⟨p, cc, B, rfl, r, l, m, hb⟩; have hR := Lib.hid (And.intro r (And.intro l m)); clear r l m; have Hsd := Loc.size HL (Loc.keep HL hb (by with_reducible assumption)); have Hzd := Lib.hid hb.size; (first | (with_reducible have hnc := newCells hb) | (with_reducible have hnc := newCellsD hb) | (with_reducible have hnc := carryCells (by with_reducible assumption) hb) | skip)))
          all_goals (go_wp2_with fail; go_meet; refine ⟨?_, S6.whole (by with_reducible assumption)⟩; have t0 := hR.out.2.1; (try rw [drewSize] at t0); (try simp only [World.size_alloc] at t0); (try have u0 := Hzb.out); (try rw [drewSize] at u0); (try simp only [World.size_alloc] at u0); (try have u1 := Hs0.out); (try rw [drewSize] at u1); (try simp only [World.size_alloc] at u1); (try have u2 := Hsb.out); (try rw [drewSize] at u2); (try simp only [World.size_alloc] at u2); (have lB : bx < B := by omega); (first | exact ResV.new hR.out.1 lB hR.out.2.2 | exact ResV.set hnc hR.out.1 lB hR.out.2.2 (by omega) (by omega)))
        case rest =>
          obtain ⟨⟨p1, c1, B1, b1, rfl, rfl, k0, r0, n0, o0, o1, m0⟩, hK⟩ := hcut
          rw [HK.out] at hK
          have O1 : Hid (Ord1 W B0 b0 X bx B1 b1) := Lib.hid ⟨OR.out, o0, o1, n0⟩
          have L5 : Hid (M1 W a n c cu cl P x1 y1 z1 N CL CU R p0 c0 B0 b0 P X bx p1 c1 B1 b1 R wc) := Lib.hid ⟨hK, k0, r0, m0⟩
          clear S0 HL HVS HK Hs0 k0 r0 n0 o0 o1 m0 hK OR
          obtain ⟨⟨_, ⟨k0, k1, k2⟩, _⟩, ⟨j0, j1, j2⟩, _⟩ := L5.out
          go_wp2_with fail
          refine (laws_eqWireA p1 p0 c1 c0 N CU CL R hN _ L5.out.2.2.1.pts L5.out.1.2.2.1.pts).mono ?_
          rintro e w6 ⟨rfl, bel⟩
          have L6 := Loc.keep (Lib.hid (M1.loc O1.out)) bel L5.out
          clear k0 k1 k2 j0 j1 j2 bel L5
          obtain ⟨K, eK⟩ : ∃ K : World → Prop, K = M1 W a n c cu cl P x1 y1 z1 N CL CU R p0 c0 B0 b0 P X bx p1 c1 B1 b1 R := ⟨_, rfl⟩
          have HK := Lib.hid eK
          have HPT : Hid (∀ w, K w → PtsA w a n P) := Lib.hid (fun w h => by rw [eK] at h; exact h.1.1.pts)
          have HXT : Hid (∀ w, K w → PtsA w (some ⟨X, 0, none⟩) n P) := Lib.hid (fun w h => by rw [eK] at h; exact .inr ⟨X, 0, rfl, h.1.2.2.2.2.vs, h.1.2.2.2.2.lt⟩)
          have S0 : S6 bx (.slice (some ⟨X, 0, none⟩) n n) (.bool cl) (.float .f32 cu) W.heap.size (.slice a n c) (.bool cl) (.float .f32 cu) K w6 := ⟨L6.1.2.2.2.1.1, L6.1.2.2.2.1.2.1, L6.1.2.2.2.1.2.2, L6.1.1.1.1, L6.1.1.1.2.1, L6.1.1.1.2.2, by rw [eK]; exact L6⟩
          have HL : Hid (Loc (max B1 b1) (S6 bx (.slice (some ⟨X, 0, none⟩) n n) (.bool cl) (.float .f32 cu) W.heap.size (.slice a n c) (.bool cl) (.float .f32 cu) K)) := Lib.hid (Loc.s6 (by rw [eK]; exact M1.loc O1.out) (by have := O1.out; unfold Ord1 Ord0 at this; omega) (by have := O1.out; unfold Ord1 Ord0 at this; omega))
          clear L6 eK
          go_wp2_with fail
          go_region_held3 (S6 bx (.slice (some ⟨X, 0, none⟩) n n) (.bool cl) (.float .f32 cu) W.heap.size (.slice a n c) (.bool cl) (.float .f32 cu) K) (with_reducible (first | exact S0 | exact Loc.keep HL hb (by assumption) | exact Loc.alloc HL (by assumption) _ | exact Loc.allocD HL (by assumption) _ | exact Loc.drew HL (by assumption) | exact Loc.re HL (by assumption) (by assumption) _ | exact Loc.set HL (Loc.set HL (Loc.set HL (by assumption) (by first | omega | exact RowKit.Hid.out (by assumption))) (by first | omega | exact RowKit.Hid.out (by assumption))) (by first | omega | exact RowKit.Hid.out (by assumption))))
            (first
              | (go_at_call 17; refine (laws_toWireA a n c cu cl P hn _ (HPT.out _ (S6.whole (by with_reducible assumption)))).mono ?_; rintro e w7 ⟨Y, rfl, row, hY, hb⟩; have hYH := Lib.hid (NewP.row (P := P) row); clear row)
              | (go_at_call 19; refine (laws_eqWireA _ _ _ _ n cu cl P hn _ (HXT.out _ (S6.whole (by with_reducible assumption))) (.inr ⟨Y, 0, rfl, hYH.out.1, hYH.out.2⟩)).mono ?_; rintro e w8 ⟨rfl, hb⟩))
          have L8 := Lib.hid (S6.whole (show S6 bx (.slice (some ⟨X, 0, none⟩) n n) (.bool cl) (.float .f32 cu) W.heap.size (.slice a n c) (.bool cl) (.float .f32 cu) K w8 by with_reducible assumption))
          rw [HK.out] at L8
          clear hb hYH S0 HL HPT HXT HK
          obtain ⟨⟨_, _, _, ⟨k0, k1, k2⟩, _⟩, _⟩ := L8.out
          go_wp2_with fail
          refine (laws_markWire (some ⟨X, 0, none⟩) n n cu X cl P hn _ (.inr ⟨rfl, L8.out.1.2.2.2.2⟩)).mono ?_
          rintro e w9 ⟨rfl, hr, has⟩
          have L9 := Lib.hid (M1.markX has O1.out hr.whole L8.out)
          clear hr has k0 k1 k2 L8
          obtain ⟨⟨_, ⟨k0, k1, k2⟩, _⟩, ⟨j0, j1, j2⟩, _⟩ := L9.out
          go_wp2_with fail
          refine (laws_eqWireA p1 p0 c1 c0 N CU CL R hN _ L9.out.2.2.1.pts L9.out.1.2.2.1.pts).mono ?_
          rintro e w10 ⟨rfl, bel⟩
          have L10 := Lib.hid (Loc.keep (Lib.hid (M1.loc O1.out)) bel L9.out)
          clear k0 k1 k2 j0 j1 j2 bel L9
          obtain ⟨⟨_, ⟨k0, k1, k2⟩, _⟩, ⟨j0, j1, j2⟩, _⟩ := L10.out
          go_wp2_with fail
          refine (laws_markWire p1 N c1 CU B1 CL R hN _ L10.out.2.2.1).mono ?_
          rintro e w11 ⟨rfl, hr, has⟩
          have L11 := Lib.hid (M1.markG has O1.out hr L10.out)
          clear k0 k1 k2 j0 j1 j2 hr has L10
          obtain ⟨⟨_, ⟨k0, k1, k2⟩, _⟩, ⟨j0, j1, j2⟩, _⟩ := L11.out
          go_wp2_with fail
          refine (laws_heldWire p1 N c1 CU B1 CL hN _ L11.out.2.2.1).mono ?_
          rintro e w12 ⟨rfl, bel⟩
          have L12 := Loc.keep (Lib.hid (M1.loc O1.out)) bel L11.out
          clear k0 k1 k2 j0 j1 j2 bel L11
          obtain ⟨K, eK⟩ : ∃ K : World → Prop, K = M1 W a n c cu cl P x1 y1 z1 N CL CU R p0 c0 B0 b0 (markP 1) X bx p1 c1 B1 b1 (markP 1) := ⟨_, rfl⟩
          have HK := Lib.hid eK
          have HPT : Hid (∀ w, K w → PtsA w a n P) := Lib.hid (fun w h => by rw [eK] at h; exact h.1.1.pts)
          have S0 : S6 W.heap.size (.slice a n c) (.bool cl) (.float .f32 cu) (W.heap.size + 1) (.float .f32 x1) (.float .f32 y1) (.float .f32 z1) K w12 := ⟨L12.1.1.1.1, L12.1.1.1.2.1, L12.1.1.1.2.2, L12.1.1.2.1.1, L12.1.1.2.1.2.1, L12.1.1.2.1.2.2, by rw [eK]; exact L12⟩
          have HL : Hid (Loc (max B1 b1) (S6 W.heap.size (.slice a n c) (.bool cl) (.float .f32 cu) (W.heap.size + 1) (.float .f32 x1) (.float .f32 y1) (.float .f32 z1) K)) := Lib.hid (Loc.s6 (by rw [eK]; exact M1.loc O1.out) (by have := O1.out; unfold Ord1 Ord0 at this; omega) (by have := O1.out; unfold Ord1 Ord0 at this; omega))
          clear L12 eK
          have Hs0 := Loc.size HL S0
          go_upto_region 24 with (fail)
          go_cut [14, 15] (fun s14 s15 wx => ResV (max B1 b1) N CL CU true R s14 s15 wx ∧ K wx)
          case first =>
            have SN := S2
            go_region_held3 (S6 W.heap.size (.slice a n c) (.bool cl) (.float .f32 cu) (W.heap.size + 1) (.float .f32 x1) (.float .f32 y1) (.float .f32 z1) K) (with_reducible (first | exact S0 | exact Loc.keep HL hb (by assumption) | exact Loc.alloc HL (by assumption) _ | exact Loc.allocD HL (by assumption) _ | exact Loc.drew HL (by assumption) | exact Loc.re HL (by assumption) (by assumption) _ | exact Loc.set HL (Loc.set HL (Loc.set HL (by assumption) (by first | omega | exact RowKit.Hid.out (by assumption))) (by first | omega | exact RowKit.Hid.out (by assumption))) (by first | omega | exact RowKit.Hid.out (by assumption))))
              (first
                | (go_at_call 17; refine (laws_toWireA a n c cu cl P hn _ (HPT.out _ (S6.whole (by with_reducible assumption)))).mono ?_; rintro e wa ⟨Y, rfl, row, hY, hb⟩; have hYa := Lib.hid (NewP.row (P := P) row); clear row hY; have Hsa := Loc.size HL (Loc.keep HL hb (by with_reducible assumption)); have Hza := Lib.hid hb.size; (first | (with_reducible have hnc := newCells hb) | (with_reducible have hnc := newCellsD hb) | (with_reducible have hnc := carryCells (by with_reducible assumption) hb) | skip))
                | (go_at_call 45; refine (laws_toVector _ _ _ _).mono ?_; rintro e wb ⟨rfl, hb⟩; (try (have hYb : Hid (NewP Y n P wb) := Lib.hid (NewP.keep hb (by first | exact hYa.out | exact NewP.keep (belowAlloc (Below.refl _ _) _) hYa.out | exact NewP.keep (Below.drew (Below.refl _ _)) hYa.out)); clear hYa; have hYa := hYb; clear hYb)); have Hsb := Loc.size HL (Loc.keep HL hb (by with_reducible assumption)); have Hzb := Lib.hid hb.size; (first | (with_reducible have hnc := newCells hb) | (with_reducible have hnc := newCellsD hb) | (with_reducible have hnc := carryCells (by with_reducible assumption) hb) | skip))
                | (go_at_call 46; refine (SN.out Y _ (show VS _ _ _ _ _ from (by first | exact hYa.out.1 | exact (NewP.keep (belowAlloc (Below.refl _ _) _) hYa.out).1))).mono ?_; rintro e wd ⟨p, cc, B, rfl, r, l, m, hb⟩; have hR := Lib.hid (And.intro r (And.intro l m)); clear r l m; have Hsd := Loc.size HL (Loc.keep HL hb (by with_reducible assumption)); have Hzd := Lib.hid hb.size; (first | (with_reducible have hnc := newCells hb) | (with_reducible have hnc := newCellsD hb) | (with_reducible have hnc := carryCells (by with_reducible assumption) hb) | skip)))
            all_goals (go_wp2_with fail; go_meet; refine ⟨?_, S6.whole (by with_reducible assumption)⟩; have t0 := hR.out.2.1; (try rw [drewSize] at t0); (try simp only [World.size_alloc] at t0); (try have u0 := Hza.out); (try rw [drewSize] at u0); (try simp only [World.size_alloc] at u0); (try have u1 := Hzb.out); (try rw [drewSize] at u1); (try simp only [World.size_alloc] at u1); (try have u2 := Hs0.out); (try rw [drewSize] at u2); (try simp only [World.size_alloc] at u2); (try have u3 := Hsa.out); (try rw [drewSize] at u3); (try simp only [World.size_alloc] at u3); (try have u4 := Hsb.out); (try rw [drewSize] at u4); (try simp only [World.size_alloc] at u4); (have lB : max B1 b1 < B := by omega); (first | exact ResV.new hR.out.1 lB hR.out.2.2 | exact ResV.set hnc hR.out.1 lB hR.out.2.2 (by omega) (by omega)))
          case rest =>
            obtain ⟨⟨p2, c2, B2, b2, rfl, rfl, i0, r2, _, _, _, _⟩, hK⟩ := hcut
            rw [HK.out] at hK
            have L14 := Lib.hid hK
            have H14 := Lib.hid r2
            clear hK r2 S0 HL HPT HK Hs0
            obtain ⟨i0, i1, i2⟩ := i0
            obtain ⟨⟨_, ⟨k0, k1, k2⟩, _⟩, ⟨j0, j1, j2⟩, _⟩ := L14.out
            go_wp2_with fail
            refine (laws_eqWireA p2 p0 c2 c0 N CU CL R hN _ H14.out.pts L14.out.1.2.2.1.pts).mono ?_
            rintro e w15 ⟨rfl, bel⟩
            have L15 := Lib.hid (Loc.keep (Lib.hid (M1.loc O1.out)) bel L14.out)
            clear k0 k1 k2 j0 j1 j2 i0 i1 i2 bel L14 H14
            obtain ⟨⟨_, ⟨k0, k1, k2⟩, _⟩, ⟨j0, j1, j2⟩, _⟩ := L15.out
            go_wp2_with fail
            refine (laws_heldWire p1 N c1 CU B1 CL hN _ L15.out.2.2.1).mono ?_
            rintro e w16 ⟨rfl, bel⟩
            have L16 := Lib.hid (Loc.keep (Lib.hid (M1.loc O1.out)) bel L15.out)
            clear k0 k1 k2 j0 j1 j2 bel L15
            go_wp2_with fail
            go_ret
            exact ⟨rfl, L16.out.1.1.2.2.2⟩
  · have hneg : decide ((1048576 : Int) - (n : Int) < 0) = true := decide_eq_true (by omega)
    go_enter Try.func13, Try.ntmps13
    go_wp2_with fail
    refine (laws_szWire_no a n c cu cl hn hnm _).mono ?_
    rintro e w1 ⟨rfl, bel⟩
    go_wp2_with fail
    go_ret
    exact ⟨rfl, belowNext (belowAlloc (belowAlloc (Below.refl W.heap.size W) _) _) bel⟩

theorem own : ownKnob Try.prog.godebug = none := by kernel_rfl
theorem laidOut : laidOutB Try.prog = true := by kernel_rfl
set_option maxRecDepth 100000 in
theorem lifted (os : Os) (started : os.Started) (H : Type) (enc : TypeId × Value → H) :
    ReturnsInHanded {} Try.checked os 13 .any (Rows.fnExactMoveWireSpec.pre6 enc Try.prog Try.f13 Rows.fnExactMoveWireRow.domain false) (Rows.fnExactMoveWireSpec.post enc Try.prog Try.f13 false true false false) := by
  refine returnsInHanded_of_change (C := Try.checked) own started (by kernel_rfl) Try.func13
    (ChangeSpec.witness6 (enc := enc) (C := Try.checked) false ⟨#[], #[.agg #[.slice none 0 0, .bool false, .float .f32 0], .agg #[.float .f32 0, .float .f32 0, .float .f32 0]], []⟩ 8 (by kernel_rfl) (by kernel_rfl) (by kernel_rfl) (by kernel_rfl)) ?_
  intro W base args ds gs before hval0 hW hcnd _
  have hval : ∀ (j : Nat) t v, Try.f13.params[j]? = some t → args[j]? = some v → Value.okWide Try.prog W .any base t v := hval0
  have hW' := hW
  obtain ⟨p, q, hA0, hV, rfl, hfz, hnd⟩ := hW
  have hA : DataW.TrodAll enc Try.prog W 0 (fun _ => true) true Try.f13.params.toList args.toList ds p := hA0
  rw [Try.params13] at hA hval
  obtain ⟨v0, vs0, d0, ds0, p0, q0, hargs, rfl, rfl, h0, r0⟩ := trodAll_cons hA
  obtain ⟨v1, vs1, d1, ds1, p1, q1, rfl, rfl, rfl, h1, r1⟩ := trodAll_cons r0
  obtain ⟨rfl, rfl, rfl⟩ := trodAll_nil r1
  obtain rfl : args = #[v0, v1] := by cases args; simp_all
  obtain ⟨rfl, rfl⟩ := trodVars_none hV
  have k0 := h0
  have lt0 : ∀ x ∈ p0, x.block < W.heap.size := by obtain ⟨m, hm⟩ := k0; exact DataW.trod_lt m _ _ _ hm
  obtain ⟨a0, rfl, w0⟩ := opened_W (hval 0 25 v0 rfl rfl) h0
  have k1 := h1
  have lt1 : ∀ x ∈ p1, x.block < W.heap.size := by obtain ⟨m, hm⟩ := k1; exact DataW.trod_lt m _ _ _ hm
  obtain ⟨x1, y1, z1, rfl, w1⟩ := opened_V (hval 1 56 v1 rfl rfl) h1
  clear hA0 hval0
  refine (walk W a0 w0 x1 y1 z1 w1).mono fun e W' ⟨he, bel⟩ => ?_
  subst he
  exact ⟨_, rfl, _, _, _, [], _, [], hW', trodAll_mk1 (shut_bool Try.underlying4 _), (trodAll_cons_mk (Below.trod laidOut (by kernel_rfl) (of_decide_eq_true (by kernel_rfl)) k0 bel lt0) (trodAll_cons_mk (Below.trod laidOut (by kernel_rfl) (of_decide_eq_true (by kernel_rfl)) k1 bel lt1) trodAll_mk0)), rfl, bel.frame _, fun h => by cases h⟩

theorem over : Rows.fnExactMoveWireRow.holds Try.pinned (OpenSpec.ofChange Rows.fnExactMoveWireSpec) :=
  OpenClaim.holds_of_wide 13 Try.f13 rfl rfl rfl rfl rfl rfl rfl ⟨rfl, rfl, rfl, rfl, rfl⟩ rfl rfl rfl rfl rfl (by kernel_rfl) Try.func13 (by kernel_rfl)
    (of_decide_eq_true (by kernel_rfl)) (by unfold Func.isWrapper; first | (rw [if_pos (by decide +kernel)]; kernel_rfl) | (rw [if_neg (by decide +kernel)]; exact ⟨rfl, rfl⟩))
    (fun os started H enc _ => lifted os started H enc)

/-- The given statement. -/
theorem proved : Rows.FnExactMoveWireSaid := over
end Go.Proofs.Ytfcniebfoboogaa.fnExactMoveWire
