/- The program's wires with other points. Conditions: as each says. -/
import Derived.Test.YtfcniebfoboogaaChg
import Derived.Deep.RegionLaw
namespace Go.Proofs.Ytfcniebfoboogaa
open Go.RowKit
attribute [local go_sem ↓] Go.wp_at_zero Go.wp_at_succ

theorem ownsKeep {w w' : World} {base : Nat} {e : TypeId} {size : Nat} {v : Value} {n : Nat} {xs : List Value} (hb : Below w.heap.size w w') (h : w.ownsRow base e size v n xs) : w'.ownsRow base e size v n xs := by
  obtain ⟨h1, h2⟩ := h
  refine ⟨h1, ?_⟩
  rcases h2 with h2 | ⟨g, cap, cur, a1, a2, a3, a4⟩
  · exact .inl h2
  · refine .inr ⟨g, cap, cur, a1, a2, ?_, a4⟩
    rw [hb.block g (by obtain ⟨l, _⟩ := Array.getElem?_eq_some_iff.1 a3; exact l)]
    exact a3
/-- The points made so far: a row of the call's own, or none yet. -/
def GrowR (base : Nat) (Q : Nat → Nat) (k : Nat) (v : Value) (w : World) : Prop := ∃ R, w.ownsRow base 49 3 v k (vecL R k) ∧ ∀ j, j < k * 3 → Same .f32 (R j) (Q j)
def upd3 (R : Nat → Nat) (k u v t j : Nat) : Nat := if j < k * 3 then R j else if j = k * 3 then u else if j = k * 3 + 1 then v else t
theorem vecL_upd (R : Nat → Nat) (k u v t : Nat) : vecL (upd3 R k u v t) (k + 1) = vecL R k ++ [.float .f32 u, .float .f32 v, .float .f32 t] := by
  unfold vecL
  rw [show (k + 1) * 3 = k * 3 + 3 by omega, List.range_add, List.map_append, List.map_map]
  congr 1
  · apply List.map_congr_left
    intro j hj
    rw [List.mem_range] at hj
    unfold upd3
    rw [if_pos hj]
  · have e0 : ¬ k * 3 + 1 < k * 3 := by omega
    have e1 : ¬ k * 3 + 2 < k * 3 := by omega
    simp [List.range_succ, upd3, e0, e1]
theorem owns_ne {w : World} {base x : Nat} {e : TypeId} {size : Nat} {v : Value} {n : Nat} {xs : List Value} (h : w.ownsRow base e size v n xs) (hx : x < base) : v.ownBlock ≠ some x := by
  obtain ⟨_, h2⟩ := h
  rcases h2 with ⟨rfl, _⟩ | ⟨g, cap, cur, rfl, a2, _⟩
  · intro h; cases h
  · simp only [Value.ownBlock, ne_eq, Option.some.injEq]; omega
theorem owns_le {w : World} {base k : Nat} {e : TypeId} {size : Nat} {v : Value} {n : Nat} {xs : List Value} (h : w.ownsRow base e size v n xs) (hk : v.ownBlock = some k) : base ≤ k := by
  rcases Nat.lt_or_ge k base with l | l
  · exact absurd hk (owns_ne h l)
  · exact l
theorem GrowR.step {base k u v t : Nat} {Q R : Nat → Nat} {x : Value} {w : World} (h : w.ownsRow base 49 3 x (k + 1) (vecL R k ++ [.float .f32 u, .float .f32 v, .float .f32 t]))
    (hs : ∀ j, j < k * 3 → Same .f32 (R j) (Q j)) (hu : Same .f32 u (Q (k * 3))) (hv : Same .f32 v (Q (k * 3 + 1))) (ht : Same .f32 t (Q (k * 3 + 2))) : GrowR base Q (k + 1) x w := by
  refine ⟨upd3 R k u v t, by rw [vecL_upd]; exact h, fun j hj => ?_⟩
  unfold upd3
  by_cases l : j < k * 3
  · rw [if_pos l]; exact hs j l
  · rw [if_neg l]
    by_cases e0 : j = k * 3
    · subst e0; rw [if_pos rfl]; exact hu
    · rw [if_neg e0]
      by_cases e1 : j = k * 3 + 1
      · subst e1; rw [if_pos rfl]; exact hv
      · rw [if_neg e1, show j = k * 3 + 2 by omega]; exact ht
theorem impl_ScaleWire1 (x0 y0 z0 q : Nat) (s : Nat) (w : World) (hq : w.cell? ⟨q, 0, none⟩ = some (.float .f32 s)) : Calls Try.prog 87 #[vecV x0 y0 z0, .pointer (some ⟨q, 0, none⟩)] w (VecIs (mu x0 s) (mu y0 s) (mu z0 s) w) := by
  have lq : q < w.heap.size := World.block_lt_of_cell? _ _ hq
  go_enter Try.func87, Try.ntmps87
  go_wp2_with fail
  refine (impl_scale _ _ _ _ _).mono ?_
  rintro e w1 ⟨u, v, t, rfl, hu, hv, ht, bel⟩
  have RZ := Lib.hid (boxTwo bel).2
  have B1 := Lib.hid (belowNext (belowAlloc (belowAlloc (Below.refl w.heap.size w) _) _) bel)
  obtain ⟨z0', z1, z2, f0, f1, f2⟩ := RZ.out
  clear bel
  go_wp2_with fail
  obtain ⟨t0, t1, t2, _⟩ := Row3.set (a' := .float .f32 u) (b' := .float .f32 v) (c' := .float .f32 t) RZ.out
  refine bodyPost_ret (v := vecV u v t) (by simp [results, Try.results87, go_sem, t0, t1, t2]) rfl ?_
  exact ⟨u, v, t, rfl, hu, hv, ht, belowSet (belowSet (belowSet B1.out (Nat.le_succ _)) (Nat.le_succ _)) (Nat.le_succ _)⟩
theorem impl_MoveWire1 (x0 y0 z0 q : Nat) (x y z : Nat) (w : World) (hq : Row3 q (.float .f32 x) (.float .f32 y) (.float .f32 z) w) : Calls Try.prog 86 #[vecV x0 y0 z0, .pointer (some ⟨q, 0, none⟩)] w (VecIs (ad x0 x) (ad y0 y) (ad z0 z) w) := by
  obtain ⟨hq0, hq1, hq2, _⟩ := hq
  have lq : q < w.heap.size := World.block_lt_of_cell? _ _ hq0
  go_enter Try.func86, Try.ntmps86
  go_wp2_with fail
  refine (impl_add _ _ _ _ _ _ _).mono ?_
  rintro e w1 ⟨u, v, t, rfl, hu, hv, ht, bel⟩
  have RZ := Lib.hid (boxTwo bel).2
  have B1 := Lib.hid (belowNext (belowAlloc (belowAlloc (Below.refl w.heap.size w) _) _) bel)
  obtain ⟨z0', z1, z2, f0, f1, f2⟩ := RZ.out
  clear bel
  go_wp2_with fail
  obtain ⟨t0, t1, t2, _⟩ := Row3.set (a' := .float .f32 u) (b' := .float .f32 v) (c' := .float .f32 t) RZ.out
  refine bodyPost_ret (v := vecV u v t) (by simp [results, Try.results86, go_sem, t0, t1, t2]) rfl ?_
  exact ⟨u, v, t, rfl, hu, hv, ht, belowSet (belowSet (belowSet B1.out (Nat.le_succ _)) (Nat.le_succ _)) (Nat.le_succ _)⟩
set_option maxRecDepth 100000 in
set_option maxHeartbeats 2000000 in
theorem impl_changedScaleWire (b o n c cu : Nat) (q s : Nat) (cl : Bool) (P : Nat → Nat) (hn : n ≤ 9223372036854775807) (w : World) (hq : w.cell? ⟨q, 0, none⟩ = some (.float .f32 s)) (hv : VS w b o n P) :
    Calls Try.prog 79 #[wireV (.slice (some ⟨b, o, none⟩) n c) cl cu, .func (Fn.func 87) #[] #[.pointer (some ⟨q, 0, none⟩)]] w (GiveW (gN (twoB P (scaleP P s) n cu) n) (gC (twoB P (scaleP P s) n cu) cl) (gN (twoB P (scaleP P s) n cu) cu) (twoB P (scaleP P s) n cu) (scaleP P s) w) := by
  obtain ⟨i0, hi0, hz0, hz1, hz2⟩ := info_parts infoV
  have HV := Lib.hid hv
  clear hv
  cases hval : validB P n cu
  · have hb : twoB P (scaleP P s) n cu = false := by unfold twoB; rw [hval, Bool.false_and]
    rw [hb]
    go_enter Try.func79, Try.ntmps79
    go_wp2_with fail
    refine (impl_ValidWire b o n c cu cl P hn _ (VS.keep (belowAlloc (belowAlloc (Below.refl _ _) _) _) HV.out)).mono ?_
    rw [hval]
    rintro e w1 ⟨rfl, bel⟩
    have RZ := Lib.hid (boxTwo bel).2
    obtain ⟨z0, z1, z2, zf0, zf1, zf2⟩ := RZ.out
    have B1 := Lib.hid (belowNext (belowAlloc (belowAlloc (Below.refl w.heap.size w) _) _) bel)
    clear bel
    go_wp2_with fail
    obtain ⟨t0, t1, t2, _⟩ := Row3.set (a' := .slice none 0 0) (b' := .bool false) (c' := .float .f32 0) RZ.out
    refine bodyPost_ret (v := .tuple #[givenV false (w.heap.size + 1) n c cl cu, .bool false]) (by simp [results, Try.results79, go_sem, t0, t1, t2, gN, gC, gA]) rfl ?_
    exact give_of rfl (fun h => by cases h) (Nat.le_succ _) (World.block_lt_of_cell? _ _ t0) (belowSet (belowSet (belowSet B1.out (Nat.le_succ _)) (Nat.le_succ _)) (Nat.le_succ _))
  · obtain ⟨h2, h48⟩ := valid_bounds hval
    have hb : twoB P (scaleP P s) n cu = validB (scaleP P s) n cu := by unfold twoB; rw [hval, Bool.true_and]
    rw [hb]
    clear hb
    go_enter Try.func79, Try.ntmps79
    go_wp2_with fail
    refine (impl_ValidWire b o n c cu cl P hn _ (VS.keep (belowAlloc (belowAlloc (Below.refl _ _) _) _) HV.out)).mono ?_
    rw [hval]
    rintro e w1 ⟨rfl, bel⟩
    have RZ := Lib.hid (boxTwo bel).2
    obtain ⟨k0, k1, k2, kf0, kf1, kf2⟩ := (boxTwo bel).1
    have V1 := Lib.hid (VS.keep bel (VS.keep (belowAlloc (belowAlloc (Below.refl _ _) _) _) HV.out))
    have B1 := Lib.hid (belowNext (belowAlloc (belowAlloc (Below.refl w.heap.size w) _) _) bel)
    have l1 : w.heap.size + 1 < w1.heap.size := World.block_lt_of_cell? _ _ RZ.out.1
    have l0 : w.heap.size < w1.heap.size := by omega
    have Q1 := Lib.hid (cellKeep bel (cellAlloc (cellAlloc hq _) _))
    clear bel
    go_wp2_with fail
    go_loopw [8, 21] (fun _ i wr => ∃ k : Nat, k ≤ n ∧ i = .int .i64 k ∧ (∃ pv, Row3 w1.heap.size pv (.bool cl) (.float .f32 cu) wr ∧ GrowR (w1.heap.size + 1) (scaleP P s) k pv wr) ∧ Below w1.heap.size w1 wr) (fun _ i _ => n - (intOf i).toNat)
    case atStart => exact ⟨0, Nat.zero_le _, rfl, ⟨.slice none 0 0, Row3.new _ _ _ _ _, P, World.ownsRow_nil _ _ _ _, fun j hj => by omega⟩, belowAlloc (Below.refl _ _) _⟩
    case round =>
      obtain ⟨k, hk, rfl, ⟨pv, rb, R, hown, hs⟩, hbel⟩ := hrel
      have hvw := Lib.hid (VS.keep hbel V1.out)
      have HB := Lib.hid hbel
      have RB := Lib.hid rb
      have HO := Lib.hid hown
      have HS := Lib.hid hs
      have RW := Lib.hid (Row3.keep hbel RZ.out)
      have Q2 := Lib.hid (cellKeep hbel Q1.out)
      have lx : w1.heap.size < wr.heap.size := World.block_lt_of_cell? _ _ rb.1
      obtain ⟨o0, o1, o2, _⟩ := rb
      clear hown hs hbel
      by_cases hlt : k < n
      · obtain ⟨x1, x2, x3⟩ := hvw.out.three hlt
        have p0 : (0 : Int) ≤ (k : Int) := by omega
        have p1 : (k : Int) < (n : Int) := by omega
        go_wp2_with fail
        have QD := Lib.hid (show ((wr.alloc (.cells #[.float .f32 (P (k * 3)), .float .f32 (P (k * 3 + 1)), .float .f32 (P (k * 3 + 2))] 49)).drew).cell? ⟨q, 0, none⟩ = some (.float .f32 s) from cellAlloc Q2.out _)
        have RBD := Lib.hid (show Row3 w1.heap.size pv (.bool cl) (.float .f32 cu) (wr.alloc (.cells #[.float .f32 (P (k * 3)), .float .f32 (P (k * 3 + 1)), .float .f32 (P (k * 3 + 2))] 49)).drew from Row3.keep (Below.drew (belowAlloc (Below.refl wr.heap.size wr) _)) RB.out)
        have HOD := Lib.hid (World.ownsRow.drew (HO.out.alloc (.cells #[.float .f32 (P (k * 3)), .float .f32 (P (k * 3 + 1)), .float .f32 (P (k * 3 + 2))] 49)))
        have HBD := Lib.hid (Below.drew (belowAlloc HB.out (.cells #[.float .f32 (P (k * 3)), .float .f32 (P (k * 3 + 1)), .float .f32 (P (k * 3 + 2))] 49)))
        go_region_law (first
          | (go_simp; go_at_call 87; refine (impl_ScaleWire1 _ _ _ q s _ QD.out).mono ?_; rintro e w' ⟨u, v, t, rfl, hu, hv2, ht, hb⟩; obtain ⟨g0, g1, g2, e0, e1, e2⟩ := Row3.keep hb RBD.out; have HO2 := Lib.hid (ownsKeep hb HOD.out); have HB2 := Lib.hid (belowNext HBD.out hb); have HUV := Lib.hid (And.intro hu (And.intro hv2 ht)); have lw' : w1.heap.size < w'.heap.size := World.block_lt_of_cell? _ _ g0; clear hb hu hv2 ht; dsimp only)
          | ((refine step_append_lies _ (by rfl) _ _ _ (by rfl) (w1.heap.size + 1) 49 i0 _ 3 12 Try.underlying28 hi0 hz0 hz1 hz2 rfl (by omega) pv k _ (by rfl) (HO2.out.alloc _) ⟨w'.heap.size, 0, none⟩ 1 1 [.float .f32 u, .float .f32 v, .float .f32 t] (by rfl) (by rfl) (World.news_of_block (cs := #[.float .f32 u, .float .f32 v, .float .f32 t]) (t := 49) (fr := (0, 0)) (heap_alloc_new w' _)) (by simp [Value.oneCell']) (by omega) (by unfold maxLen; omega) (by omega) (by simp; omega) (w'.heap.size + 1) (by simp) ?_); intro gg cc w2 hown2 hgrow hat hlt1; obtain ⟨q0, q1, q2, d0, d1, d2⟩ := Row3.grown (Row3.keep (belowAlloc (Below.refl _ _) _) (⟨g0, g1, g2, e0, e1, e2⟩ : Row3 w1.heap.size _ _ _ w')) hgrow (owns_ne HO2.out (Nat.lt_succ_self _)); have HG := Lib.hid (And.intro hown2 hgrow); clear hown2 hgrow))
        all_goals
          have HR : Row3 w1.heap.size pv (.bool cl) (.float .f32 cu) w2 := ⟨q0, q1, q2, d0, d1, d2⟩
          have HX := Lib.hid (And.intro (Row3.first (u := .slice (some ⟨gg, 0, none⟩) (k + 1) cc) HR) (And.intro (GrowR.step (Q := scaleP P s) (ownsRow_setCell_other HG.out.1 (a := ⟨w1.heap.size, 0, none⟩) (owns_ne HG.out.1 (Nat.lt_succ_self _)) (.slice (some ⟨gg, 0, none⟩) (k + 1) cc)) HS.out HUV.out.1 HUV.out.2.1 HUV.out.2.2)
            (belowSet (j := 0) (u := .slice (some ⟨gg, 0, none⟩) (k + 1) cc) (Below.grown (belowAlloc HB2.out _) HG.out.2 (by simp; omega) (fun j hj => Nat.le_of_lt (owns_le HO2.out hj))) (Nat.le_refl _))))
          clear HR HG hat hlt1 HO2 HB2 HUV
          go_wp2_with fail
          go_roundw
          case rel => exact ⟨k + 1, by omega, by go_num, ⟨_, HX.out.1, HX.out.2.1⟩, HX.out.2.2⟩
          case measure => simp [intOf]; omega
      · obtain rfl : k = n := by omega
        obtain ⟨g, cap, rfl, hlg, hgl⟩ := HO.out.form (by omega)
        have HW := Lib.hid (WRow.owns HO.out).1
        go_wp2_with fail
        refine (impl_ifWire g k cap cu cl R hn _ HW.out.vs).mono ?_
        rw [valid_same HS.out]
        rintro e w3 ⟨rfl, bel⟩
        have HX := Lib.hid (And.intro (Row3.keep bel RW.out) (And.intro (WRow.keep bel HW.out) (belowNext (belowNext B1.out HB.out) bel)))
        obtain ⟨z0, z1, z2, y0, y1, y2⟩ := HX.out.1
        clear bel
        go_wp2_with fail
        obtain ⟨t0, t1, t2, _⟩ := Row3.set (a' := .slice (gA (validB (scaleP P s) k cu) g) (gN (validB (scaleP P s) k cu) k) (gN (validB (scaleP P s) k cu) cap)) (b' := .bool (gC (validB (scaleP P s) k cu) cl)) (c' := .float .f32 (gN (validB (scaleP P s) k cu) cu)) HX.out.1
        refine bodyPost_ret (v := .tuple #[givenV (validB (scaleP P s) k cu) g k cap cl cu, .bool (validB (scaleP P s) k cu)]) (by simp [results, Try.results79, go_sem, t0, t1, t2]) rfl ?_
        have ng : g ≠ w.heap.size + 1 := by omega
        exact give_of rfl (fun hvq => ((((HX.out.2.1.congr (valid_eq HS.out hvq)).setOther ng).setOther ng).setOther ng)) (by omega) (by have := HX.out.2.1.lt; simpa using this) (belowSet (belowSet (belowSet HX.out.2.2 (by omega)) (by omega)) (by omega))
set_option maxRecDepth 100000 in
set_option maxHeartbeats 2000000 in
theorem impl_changedMoveWire (b o n c cu : Nat) (q x y z : Nat) (cl : Bool) (P : Nat → Nat) (hn : n ≤ 9223372036854775807) (w : World) (hq : Row3 q (.float .f32 x) (.float .f32 y) (.float .f32 z) w) (hv : VS w b o n P) :
    Calls Try.prog 79 #[wireV (.slice (some ⟨b, o, none⟩) n c) cl cu, .func (Fn.func 86) #[] #[.pointer (some ⟨q, 0, none⟩)]] w (GiveW (gN (twoB P (moveP P x y z) n cu) n) (gC (twoB P (moveP P x y z) n cu) cl) (gN (twoB P (moveP P x y z) n cu) cu) (twoB P (moveP P x y z) n cu) (moveP P x y z) w) := by
  obtain ⟨i0, hi0, hz0, hz1, hz2⟩ := info_parts infoV
  have HV := Lib.hid hv
  clear hv
  cases hval : validB P n cu
  · have hb : twoB P (moveP P x y z) n cu = false := by unfold twoB; rw [hval, Bool.false_and]
    rw [hb]
    go_enter Try.func79, Try.ntmps79
    go_wp2_with fail
    refine (impl_ValidWire b o n c cu cl P hn _ (VS.keep (belowAlloc (belowAlloc (Below.refl _ _) _) _) HV.out)).mono ?_
    rw [hval]
    rintro e w1 ⟨rfl, bel⟩
    have RZ := Lib.hid (boxTwo bel).2
    obtain ⟨z0, z1, z2, zf0, zf1, zf2⟩ := RZ.out
    have B1 := Lib.hid (belowNext (belowAlloc (belowAlloc (Below.refl w.heap.size w) _) _) bel)
    clear bel
    go_wp2_with fail
    obtain ⟨t0, t1, t2, _⟩ := Row3.set (a' := .slice none 0 0) (b' := .bool false) (c' := .float .f32 0) RZ.out
    refine bodyPost_ret (v := .tuple #[givenV false (w.heap.size + 1) n c cl cu, .bool false]) (by simp [results, Try.results79, go_sem, t0, t1, t2, gN, gC, gA]) rfl ?_
    exact give_of rfl (fun h => by cases h) (Nat.le_succ _) (World.block_lt_of_cell? _ _ t0) (belowSet (belowSet (belowSet B1.out (Nat.le_succ _)) (Nat.le_succ _)) (Nat.le_succ _))
  · obtain ⟨h2, h48⟩ := valid_bounds hval
    have hb : twoB P (moveP P x y z) n cu = validB (moveP P x y z) n cu := by unfold twoB; rw [hval, Bool.true_and]
    rw [hb]
    clear hb
    go_enter Try.func79, Try.ntmps79
    go_wp2_with fail
    refine (impl_ValidWire b o n c cu cl P hn _ (VS.keep (belowAlloc (belowAlloc (Below.refl _ _) _) _) HV.out)).mono ?_
    rw [hval]
    rintro e w1 ⟨rfl, bel⟩
    have RZ := Lib.hid (boxTwo bel).2
    obtain ⟨k0, k1, k2, kf0, kf1, kf2⟩ := (boxTwo bel).1
    have V1 := Lib.hid (VS.keep bel (VS.keep (belowAlloc (belowAlloc (Below.refl _ _) _) _) HV.out))
    have B1 := Lib.hid (belowNext (belowAlloc (belowAlloc (Below.refl w.heap.size w) _) _) bel)
    have l1 : w.heap.size + 1 < w1.heap.size := World.block_lt_of_cell? _ _ RZ.out.1
    have l0 : w.heap.size < w1.heap.size := by omega
    have Q1 := Lib.hid (Row3.keep bel (Row3.keep (belowAlloc (Below.refl _ _) _) (Row3.keep (belowAlloc (Below.refl _ _) _) hq)))
    clear bel
    go_wp2_with fail
    go_loopw [8, 21] (fun _ i wr => ∃ k : Nat, k ≤ n ∧ i = .int .i64 k ∧ (∃ pv, Row3 w1.heap.size pv (.bool cl) (.float .f32 cu) wr ∧ GrowR (w1.heap.size + 1) (moveP P x y z) k pv wr) ∧ Below w1.heap.size w1 wr) (fun _ i _ => n - (intOf i).toNat)
    case atStart => exact ⟨0, Nat.zero_le _, rfl, ⟨.slice none 0 0, Row3.new _ _ _ _ _, P, World.ownsRow_nil _ _ _ _, fun j hj => by omega⟩, belowAlloc (Below.refl _ _) _⟩
    case round =>
      obtain ⟨k, hk, rfl, ⟨pv, rb, R, hown, hs⟩, hbel⟩ := hrel
      have hvw := Lib.hid (VS.keep hbel V1.out)
      have HB := Lib.hid hbel
      have RB := Lib.hid rb
      have HO := Lib.hid hown
      have HS := Lib.hid hs
      have RW := Lib.hid (Row3.keep hbel RZ.out)
      have Q2 := Lib.hid (Row3.keep hbel Q1.out)
      have lx : w1.heap.size < wr.heap.size := World.block_lt_of_cell? _ _ rb.1
      obtain ⟨o0, o1, o2, _⟩ := rb
      clear hown hs hbel
      by_cases hlt : k < n
      · obtain ⟨x1, x2, x3⟩ := hvw.out.three hlt
        have p0 : (0 : Int) ≤ (k : Int) := by omega
        have p1 : (k : Int) < (n : Int) := by omega
        go_wp2_with fail
        have QD := Lib.hid (show Row3 q (.float .f32 x) (.float .f32 y) (.float .f32 z) (wr.alloc (.cells #[.float .f32 (P (k * 3)), .float .f32 (P (k * 3 + 1)), .float .f32 (P (k * 3 + 2))] 49)).drew from Row3.keep (Below.drew (belowAlloc (Below.refl wr.heap.size wr) _)) Q2.out)
        have RBD := Lib.hid (show Row3 w1.heap.size pv (.bool cl) (.float .f32 cu) (wr.alloc (.cells #[.float .f32 (P (k * 3)), .float .f32 (P (k * 3 + 1)), .float .f32 (P (k * 3 + 2))] 49)).drew from Row3.keep (Below.drew (belowAlloc (Below.refl wr.heap.size wr) _)) RB.out)
        have HOD := Lib.hid (World.ownsRow.drew (HO.out.alloc (.cells #[.float .f32 (P (k * 3)), .float .f32 (P (k * 3 + 1)), .float .f32 (P (k * 3 + 2))] 49)))
        have HBD := Lib.hid (Below.drew (belowAlloc HB.out (.cells #[.float .f32 (P (k * 3)), .float .f32 (P (k * 3 + 1)), .float .f32 (P (k * 3 + 2))] 49)))
        go_region_law (first
          | (go_simp; go_at_call 86; refine (impl_MoveWire1 _ _ _ q x y z _ QD.out).mono ?_; rintro e w' ⟨u, v, t, rfl, hu, hv2, ht, hb⟩; obtain ⟨g0, g1, g2, e0, e1, e2⟩ := Row3.keep hb RBD.out; have HO2 := Lib.hid (ownsKeep hb HOD.out); have HB2 := Lib.hid (belowNext HBD.out hb); have HUV := Lib.hid (And.intro hu (And.intro hv2 ht)); have lw' : w1.heap.size < w'.heap.size := World.block_lt_of_cell? _ _ g0; clear hb hu hv2 ht; dsimp only)
          | ((refine step_append_lies _ (by rfl) _ _ _ (by rfl) (w1.heap.size + 1) 49 i0 _ 3 12 Try.underlying28 hi0 hz0 hz1 hz2 rfl (by omega) pv k _ (by rfl) (HO2.out.alloc _) ⟨w'.heap.size, 0, none⟩ 1 1 [.float .f32 u, .float .f32 v, .float .f32 t] (by rfl) (by rfl) (World.news_of_block (cs := #[.float .f32 u, .float .f32 v, .float .f32 t]) (t := 49) (fr := (0, 0)) (heap_alloc_new w' _)) (by simp [Value.oneCell']) (by omega) (by unfold maxLen; omega) (by omega) (by simp; omega) (w'.heap.size + 1) (by simp) ?_); intro gg cc w2 hown2 hgrow hat hlt1; obtain ⟨q0, q1, q2, d0, d1, d2⟩ := Row3.grown (Row3.keep (belowAlloc (Below.refl _ _) _) (⟨g0, g1, g2, e0, e1, e2⟩ : Row3 w1.heap.size _ _ _ w')) hgrow (owns_ne HO2.out (Nat.lt_succ_self _)); have HG := Lib.hid (And.intro hown2 hgrow); clear hown2 hgrow))
        all_goals
          have HR : Row3 w1.heap.size pv (.bool cl) (.float .f32 cu) w2 := ⟨q0, q1, q2, d0, d1, d2⟩
          have HX := Lib.hid (And.intro (Row3.first (u := .slice (some ⟨gg, 0, none⟩) (k + 1) cc) HR) (And.intro (GrowR.step (Q := moveP P x y z) (ownsRow_setCell_other HG.out.1 (a := ⟨w1.heap.size, 0, none⟩) (owns_ne HG.out.1 (Nat.lt_succ_self _)) (.slice (some ⟨gg, 0, none⟩) (k + 1) cc)) HS.out (by rw [(moveP_at P x y z k).1]; exact HUV.out.1) (by rw [(moveP_at P x y z k).2.1]; exact HUV.out.2.1) (by rw [(moveP_at P x y z k).2.2]; exact HUV.out.2.2))
            (belowSet (j := 0) (u := .slice (some ⟨gg, 0, none⟩) (k + 1) cc) (Below.grown (belowAlloc HB2.out _) HG.out.2 (by simp; omega) (fun j hj => Nat.le_of_lt (owns_le HO2.out hj))) (Nat.le_refl _))))
          clear HR HG hat hlt1 HO2 HB2 HUV
          go_wp2_with fail
          go_roundw
          case rel => exact ⟨k + 1, by omega, by go_num, ⟨_, HX.out.1, HX.out.2.1⟩, HX.out.2.2⟩
          case measure => simp [intOf]; omega
      · obtain rfl : k = n := by omega
        obtain ⟨g, cap, rfl, hlg, hgl⟩ := HO.out.form (by omega)
        have HW := Lib.hid (WRow.owns HO.out).1
        go_wp2_with fail
        refine (impl_ifWire g k cap cu cl R hn _ HW.out.vs).mono ?_
        rw [valid_same HS.out]
        rintro e w3 ⟨rfl, bel⟩
        have HX := Lib.hid (And.intro (Row3.keep bel RW.out) (And.intro (WRow.keep bel HW.out) (belowNext (belowNext B1.out HB.out) bel)))
        obtain ⟨z0, z1, z2, y0, y1, y2⟩ := HX.out.1
        clear bel
        go_wp2_with fail
        obtain ⟨t0, t1, t2, _⟩ := Row3.set (a' := .slice (gA (validB (moveP P x y z) k cu) g) (gN (validB (moveP P x y z) k cu) k) (gN (validB (moveP P x y z) k cu) cap)) (b' := .bool (gC (validB (moveP P x y z) k cu) cl)) (c' := .float .f32 (gN (validB (moveP P x y z) k cu) cu)) HX.out.1
        refine bodyPost_ret (v := .tuple #[givenV (validB (moveP P x y z) k cu) g k cap cl cu, .bool (validB (moveP P x y z) k cu)]) (by simp [results, Try.results79, go_sem, t0, t1, t2]) rfl ?_
        have ng : g ≠ w.heap.size + 1 := by omega
        exact give_of rfl (fun hvq => ((((HX.out.2.1.congr (valid_eq HS.out hvq)).setOther ng).setOther ng).setOther ng)) (by omega) (by have := HX.out.2.1.lt; simpa using this) (belowSet (belowSet (belowSet HX.out.2.2 (by omega)) (by omega)) (by omega))
end Go.Proofs.Ytfcniebfoboogaa
