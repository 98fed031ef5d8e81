/- Wires with other points. Conditions: as each says. -/
import Derived.Test.YtfcniebfoboogaaFeed
namespace Go.Proofs.Ytfcniebfoboogaa
open Go.RowKit
attribute [local go_sem ↓] Go.wp_at_zero Go.wp_at_succ

theorem allFin_same {R Q : Nat → Nat} : ∀ {n : Nat}, (∀ j, j < n * 3 → Same .f32 (R j) (Q j)) → allFin R n = allFin Q n := by
  intro n
  induction n with
  | zero => intro _; rfl
  | succ n ih =>
    intro h
    unfold allFin vfinP
    rw [ih (fun j hj => h j (by omega)), finB_same (h (n * 3) (by omega)), finB_same (h (n * 3 + 1) (by omega)), finB_same (h (n * 3 + 2) (by omega))]
theorem valid_same {R Q : Nat → Nat} {n cu : Nat} (h : ∀ j, j < n * 3 → Same .f32 (R j) (Q j)) : validB R n cu = validB Q n cu := by
  unfold validB
  rw [allFin_same h]
theorem allFin_at {Q : Nat → Nat} : ∀ {n : Nat}, allFin Q n = true → ∀ j, j < n * 3 → finB (Q j) = true := by
  intro n
  induction n with
  | zero => intro _ j hj; omega
  | succ n ih =>
    intro h j hj
    unfold allFin vfinP at h
    rw [Bool.and_eq_true, Bool.and_eq_true, Bool.and_eq_true] at h
    obtain ⟨h0, h1, h2, h3⟩ := h
    obtain e | rfl | rfl | rfl : j < n * 3 ∨ j = n * 3 ∨ j = n * 3 + 1 ∨ j = n * 3 + 2 := by omega
    · exact ih h0 j e
    · exact h1
    · exact h2
    · exact h3
theorem valid_eq {R Q : Nat → Nat} {n cu : Nat} (h : ∀ j, j < n * 3 → Same .f32 (R j) (Q j)) (hv : validB Q n cu = true) : ∀ j, j < n * 3 → R j = Q j := by
  intro j hj
  unfold validB at hv
  rw [Bool.and_eq_true, Bool.and_eq_true, Bool.and_eq_true] at hv
  have hf := allFin_at hv.2.2.2 j hj
  rcases h j hj with e | ⟨_, e⟩
  · exact e
  · unfold finB at hf
    rw [decide_eq_true_eq] at hf
    rw [nanB_of_rung (k := .f32) (Nat.le_of_lt hf)] at e
    cases e
/-- Valid before and behind. -/
def twoB (P Q : Nat → Nat) (n cu : Nat) : Bool := validB P n cu && validB Q n cu
/-- The first k vectors are done, the others are as they were. -/
def LoopR (g n : Nat) (P Q : Nat → Nat) (k : Nat) (w : World) : Prop := ∃ R, WRow g n R w ∧ (∀ j, j < k * 3 → Same .f32 (R j) (Q j)) ∧ ∀ j, k * 3 ≤ j → R j = P j
theorem LoopR.keep {g n k : Nat} {P Q : Nat → Nat} {w w' : World} (hb : Below w.heap.size w w') (h : LoopR g n P Q k w) : LoopR g n P Q k w' := by
  obtain ⟨R, h, s, e⟩ := h
  exact ⟨R, h.keep hb, s, e⟩
theorem LoopR.start {g n : Nat} {P Q : Nat → Nat} {w : World} (h : WRow g n P w) : LoopR g n P Q 0 w := ⟨P, h, fun j hj => by omega, fun _ _ => rfl⟩
theorem LoopR.lt {g n k : Nat} {P Q : Nat → Nat} {w : World} (h : LoopR g n P Q k w) : g < w.heap.size := by
  obtain ⟨R, h, _⟩ := h
  exact h.lt
theorem LoopR.frozen {g n k : Nat} {P Q : Nat → Nat} {w : World} (h : LoopR g n P Q k w) (i : Nat) : w.frozen? ⟨g, i, none⟩ = false := by
  obtain ⟨R, h, _⟩ := h
  exact h.frozen i
theorem LoopR.three {g n k : Nat} {P Q : Nat → Nat} {w : World} (h : LoopR g n P Q k w) (hk : k < n) : w.cell? ⟨g, k * 3, none⟩ = some (.float .f32 (P (k * 3))) ∧ w.cell? ⟨g, k * 3 + 1, none⟩ = some (.float .f32 (P (k * 3 + 1))) ∧ w.cell? ⟨g, k * 3 + 2, none⟩ = some (.float .f32 (P (k * 3 + 2))) := by
  obtain ⟨R, h, _, e⟩ := h
  have := h.vs.three hk
  rw [e _ (Nat.le_refl _), e _ (by omega), e _ (by omega)] at this
  simpa only [Nat.zero_add] using this
theorem LoopR.step {g n k u v t : Nat} {P Q : Nat → Nat} {w : World} (h : LoopR g n P Q k w) (hu : Same .f32 u (Q (k * 3))) (hv : Same .f32 v (Q (k * 3 + 1))) (ht : Same .f32 t (Q (k * 3 + 2))) :
    LoopR g n P Q (k + 1) (((w.setCell ⟨g, k * 3, none⟩ (.float .f32 u)).setCell ⟨g, k * 3 + 1, none⟩ (.float .f32 v)).setCell ⟨g, k * 3 + 2, none⟩ (.float .f32 t)) := by
  obtain ⟨R, h, s, e⟩ := h
  refine ⟨_, ((h.set (k * 3) u).set (k * 3 + 1) v).set (k * 3 + 2) t, fun j hj => ?_, fun j hj => ?_⟩
  · by_cases e2 : j = k * 3 + 2
    · subst e2; rw [if_pos rfl]; exact ht
    · rw [if_neg e2]
      by_cases e1 : j = k * 3 + 1
      · subst e1; rw [if_pos rfl]; exact hv
      · rw [if_neg e1]
        by_cases e0 : j = k * 3
        · subst e0; rw [if_pos rfl]; exact hu
        · rw [if_neg e0]; exact s j (by omega)
  · rw [if_neg (by omega), if_neg (by omega), if_neg (by omega)]
    exact e j (by omega)
theorem LoopR.done {g n : Nat} {P Q : Nat → Nat} {w : World} (h : LoopR g n P Q n w) : ∃ R, WRow g n R w ∧ ∀ j, j < n * 3 → Same .f32 (R j) (Q j) := by
  obtain ⟨R, h, s, _⟩ := h
  exact ⟨R, h, s⟩
def scaleP (P : Nat → Nat) (s j : Nat) : Nat := mu (P j) s
def moveP (P : Nat → Nat) (x y z j : Nat) : Nat := ad (P j) (if j % 3 = 0 then x else if j % 3 = 1 then y else z)
theorem moveP_at (P : Nat → Nat) (x y z k : Nat) : moveP P x y z (k * 3) = ad (P (k * 3)) x ∧ moveP P x y z (k * 3 + 1) = ad (P (k * 3 + 1)) y ∧ moveP P x y z (k * 3 + 2) = ad (P (k * 3 + 2)) z := by
  have e0 : k * 3 % 3 = 0 := by omega
  have e1 : (k * 3 + 1) % 3 = 1 := by omega
  have e2 : (k * 3 + 2) % 3 = 2 := by omega
  unfold moveP
  simp [e0, e1, e2]
theorem threeBoxes {w w1 : World} {o1 o2 : Obj} {x y z : Value} {u : TypeId} (bel : Below (((w.alloc o1).alloc o2).alloc (.cells #[x, y, z] u)).heap.size (((w.alloc o1).alloc o2).alloc (.cells #[x, y, z] u)) w1) : Row3 (w.heap.size + 1 + 1) x y z w1 := by
  have r := Row3.keep bel (Row3.new ((w.alloc o1).alloc o2) x y z u)
  rw [World.size_alloc, World.size_alloc] at r
  exact r
theorem firstBox {w w1 : World} {o2 o3 : Obj} {x y z : Value} {u : TypeId} (bel : Below (((w.alloc (.cells #[x, y, z] u)).alloc o2).alloc o3).heap.size (((w.alloc (.cells #[x, y, z] u)).alloc o2).alloc o3) w1) : Row3 w.heap.size x y z w1 :=
  Row3.keep bel (Row3.keep (belowAlloc (Below.refl _ _) _) (Row3.keep (belowAlloc (Below.refl _ _) _) (Row3.new w x y z u)))
theorem secBox {w w1 : World} {o1 o3 : Obj} {x y z : Value} {u : TypeId} (bel : Below (((w.alloc o1).alloc (.cells #[x, y, z] u)).alloc o3).heap.size (((w.alloc o1).alloc (.cells #[x, y, z] u)).alloc o3) w1) : Row3 (w.heap.size + 1) x y z w1 := by
  have r := Row3.keep bel (Row3.keep (belowAlloc (Below.refl _ _) o3) (Row3.new (w.alloc o1) x y z u))
  rw [World.size_alloc] at r
  exact r
set_option maxRecDepth 100000 in
set_option maxHeartbeats 2000000 in
theorem spec_ScaleWire (b o n c cu : Nat) (s : Nat) (cl : Bool) (P : Nat → Nat) (hn : n ≤ 9223372036854775807) (w : World) (hv : VS w b o n P) :
    Calls Try.prog 47 #[wireV (.slice (some ⟨b, o, none⟩) n c) cl cu, .float .f32 s] w (GiveW (gN (twoB P (scaleP P s) n cu) n) (gC (twoB P (scaleP P s) n cu) cl) (gN (twoB P (scaleP P s) n cu) cu) (twoB P (scaleP P s) n cu) (scaleP P s) w) := by
  have HV := Lib.hid hv
  clear hv
  cases hval : validB P n cu
  · have hb : twoB P (scaleP P s) n cu = false := by unfold twoB; rw [hval, Bool.false_and]
    rw [hb]
    go_enter Try.func47, Try.ntmps47
    go_wp2_with fail
    refine (spec_is _ b o n c cu P hn _ ?_ ?_ ?_).mono ?_
    · exact (boxTwo (Below.refl _ _)).1.1
    · exact (boxTwo (Below.refl _ _)).1.2.2.1
    · exact VS.keep (belowAlloc (belowAlloc (Below.refl _ _) _) _) HV.out
    rw [hval]
    rintro e w1 ⟨rfl, bel⟩
    have RZ := Lib.hid ((boxTwo bel).2)
    obtain ⟨z0, z1, z2, zf0, zf1, zf2⟩ := RZ.out
    have B1 := Lib.hid (belowNext (belowAlloc (belowAlloc (Below.refl w.heap.size w) _) _) bel)
    clear bel
    go_wp2_with fail
    obtain ⟨t0, t1, t2, _⟩ := Row3.set (a' := .slice none 0 0) (b' := .bool false) (c' := .float .f32 0) RZ.out
    refine bodyPost_ret (v := .tuple #[givenV false (w.heap.size + 1) n c cl cu, .bool false]) (by simp [results, Try.results47, go_sem, t0, t1, t2, gN, gC, gA]) rfl ?_
    exact give_of rfl (fun h => by cases h) (by omega) (World.block_lt_of_cell? _ _ t0) (belowSet (belowSet (belowSet B1.out (by omega)) (by omega)) (by omega))
  · obtain ⟨h2, h48⟩ := valid_bounds hval
    have hb : twoB P (scaleP P s) n cu = validB (scaleP P s) n cu := by unfold twoB; rw [hval, Bool.true_and]
    rw [hb]
    clear hb
    go_enter Try.func47, Try.ntmps47
    go_wp2_with fail
    refine (spec_is _ b o n c cu P hn _ ?_ ?_ ?_).mono ?_
    · exact (boxTwo (Below.refl _ _)).1.1
    · exact (boxTwo (Below.refl _ _)).1.2.2.1
    · exact VS.keep (belowAlloc (belowAlloc (Below.refl _ _) _) _) HV.out
    rw [hval]
    rintro e w1 ⟨rfl, bel⟩
    have RZ := Lib.hid ((boxTwo bel).2)
    obtain ⟨k0, k1, k2, kf0, kf1, kf2⟩ := (boxTwo bel).1
    
    have V1 := Lib.hid (VS.keep bel (VS.keep (belowAlloc (belowAlloc (Below.refl _ _) _) _) HV.out))
    have B1 := Lib.hid (belowNext (belowAlloc (belowAlloc (Below.refl w.heap.size w) _) _) bel)
    have l1 : w.heap.size + 1 < w1.heap.size := World.block_lt_of_cell? _ _ RZ.out.1
    clear bel
    go_wp2_with fail
    refine (spec_own w.heap.size b o n c cu cl P (by omega) h48 _ k0 k1 k2 V1.out).mono ?_
    rintro e w2 ⟨g, cap, rfl, hw, hlg, bel⟩
    have RZ2 := Lib.hid (Row3.keep bel RZ.out)
    
    have B2 := Lib.hid (belowNext B1.out bel)
    have HW := Lib.hid hw
    have lg : g < w2.heap.size := hw.lt
    have l2 : w1.heap.size ≤ w2.heap.size := bel.size
    clear bel hw k0 k1 k2 kf0 kf1 kf2 V1 B1 RZ
    go_wp2_with fail
    go_loopw [7] (fun i wr => ∃ k : Nat, k ≤ n ∧ i = .int .i64 k ∧ LoopR g n P (scaleP P s) k wr ∧ Row3 w2.heap.size (.slice (some ⟨g, 0, none⟩) n cap) (.bool cl) (.float .f32 cu) wr ∧ Row3 (w.heap.size + 1) (.slice none 0 0) (.bool false) (.float .f32 0) wr ∧ Below w.heap.size w wr) (fun i _ => n - (intOf i).toNat)
    case atStart => exact ⟨0, Nat.zero_le _, rfl, LoopR.start (HW.out.keep (belowAlloc (Below.refl _ _) _)), Row3.new _ _ _ _ _, Row3.keep (belowAlloc (Below.refl _ _) _) RZ2.out, belowAlloc B2.out _⟩
    case round =>
      obtain ⟨k, hk, rfl, lr, rb, rz, hbel⟩ := hrel
      have LR := Lib.hid lr
      have RB := Lib.hid rb
      have RW := Lib.hid rz
      have HB := Lib.hid hbel
      have lx : w2.heap.size < wr.heap.size := World.block_lt_of_cell? _ _ rb.1
      
      obtain ⟨o0, o1, o2, _⟩ := rb
      clear lr rz hbel
      by_cases hlt : k < n
      · obtain ⟨x1, x2, x3⟩ := LR.out.three hlt
        have p0 : (0 : Int) ≤ (k : Int) := by omega
        have p1 : (k : Int) < (n : Int) := by omega
        go_wp2_with fail
        go_region_with ((go_at_call 84; refine (spec_scale _ _ _ _ _).mono ?_; rintro e w' ⟨u, v, t, rfl, hu, hv2, ht, hb⟩; obtain ⟨g0, g1, g2, e0, e1, e2⟩ := Row3.keep (w := wr.drew) hb RB.out; obtain ⟨y1, y2, y3⟩ := (LoopR.keep (w := wr.drew) hb LR.out).three hlt; have fr0 := (LoopR.keep (w := wr.drew) hb LR.out).frozen (k * 3); have fr1 := (LoopR.keep (w := wr.drew) hb LR.out).frozen (k * 3 + 1); have fr2 := (LoopR.keep (w := wr.drew) hb LR.out).frozen (k * 3 + 2); have hbH := Lib.hid hb; clear hb))
        all_goals
          have ng0 : w2.heap.size ≠ g := by omega
          have ng1 : w.heap.size + 1 ≠ g := by omega
          have gl : w.heap.size ≤ g := by omega
          
          have HX := Lib.hid (And.intro (LoopR.step (LoopR.keep (w := wr.drew) hbH.out LR.out) hu hv2 ht) (And.intro (Row3.setOne (Row3.setOne (Row3.setOne (Row3.keep (w := wr.drew) hbH.out RB.out) ng0 (i := k * 3) (u := .float .f32 u)) ng0 (i := k * 3 + 1) (u := .float .f32 v)) ng0 (i := k * 3 + 2) (u := .float .f32 t)) (And.intro (Row3.setOne (Row3.setOne (Row3.setOne (Row3.keep (w := wr.drew) hbH.out RW.out) ng1 (i := k * 3) (u := .float .f32 u)) ng1 (i := k * 3 + 1) (u := .float .f32 v)) ng1 (i := k * 3 + 2) (u := .float .f32 t)) (belowSet (j := k * 3 + 2) (u := .float .f32 t) (belowSet (j := k * 3 + 1) (u := .float .f32 v) (belowSet (j := k * 3) (u := .float .f32 u) (belowNext HB.out.drew hbH.out) gl) gl) gl))))
          clear g0 g1 g2 e0 e1 e2 y1 y2 y3 fr0 fr1 fr2 hbH
          go_wp2_with fail
          go_roundw
          case rel => exact ⟨k + 1, by omega, by go_num, HX.out.1, HX.out.2.1, HX.out.2.2.1, HX.out.2.2.2⟩
          case measure => simp [intOf]; omega
      · obtain rfl : k = n := by omega
        obtain ⟨R, hw, hs⟩ := LR.out.done
        have HS := Lib.hid hs
        have HW2 := Lib.hid hw
        clear hw hs
        go_wp2_with fail
        refine (spec_give g k cap cu cl R hn _ HW2.out.vs).mono ?_
        rw [valid_same HS.out]
        rintro e w3 ⟨rfl, bel⟩
        have HX := Lib.hid (And.intro (Row3.keep bel RW.out) (And.intro (WRow.keep bel HW2.out) (belowNext HB.out bel)))
        obtain ⟨z0, z1, z2, y0, y1, y2⟩ := HX.out.1
        clear bel
        go_wp2_with fail
        obtain ⟨t0, t1, t2, _⟩ := Row3.set (a' := .slice (gA (validB (scaleP P s) k cu) g) (gN (validB (scaleP P s) k cu) k) (gN (validB (scaleP P s) k cu) cap)) (b' := .bool (gC (validB (scaleP P s) k cu) cl)) (c' := .float .f32 (gN (validB (scaleP P s) k cu) cu)) HX.out.1
        refine bodyPost_ret (v := .tuple #[givenV (validB (scaleP P s) k cu) g k cap cl cu, .bool (validB (scaleP P s) k cu)]) (by simp [results, Try.results47, go_sem, t0, t1, t2]) rfl ?_
        have ng : g ≠ w.heap.size + 1 := by omega
        exact give_of rfl (fun hvq => ((((HX.out.2.1.congr (valid_eq HS.out hvq)).setOther ng).setOther ng).setOther ng)) (by omega) (by have := HX.out.2.1.lt; simpa using this) (belowSet (belowSet (belowSet HX.out.2.2 (by omega)) (by omega)) (by omega))
set_option maxRecDepth 100000 in
set_option maxHeartbeats 2000000 in
theorem spec_MoveWire (b o n c cu : Nat) (x y z : Nat) (cl : Bool) (P : Nat → Nat) (hn : n ≤ 9223372036854775807) (w : World) (hv : VS w b o n P) :
    Calls Try.prog 44 #[wireV (.slice (some ⟨b, o, none⟩) n c) cl cu, vecV x y z] w (GiveW (gN (twoB P (moveP P x y z) n cu) n) (gC (twoB P (moveP P x y z) n cu) cl) (gN (twoB P (moveP P x y z) n cu) cu) (twoB P (moveP P x y z) n cu) (moveP P x y z) w) := by
  have HV := Lib.hid hv
  clear hv
  cases hval : validB P n cu
  · have hb : twoB P (moveP P x y z) n cu = false := by unfold twoB; rw [hval, Bool.false_and]
    rw [hb]
    go_enter Try.func44, Try.ntmps44
    go_wp2_with fail
    refine (spec_is _ b o n c cu P hn _ ?_ ?_ ?_).mono ?_
    · exact (firstBox (Below.refl _ _)).1
    · exact (firstBox (Below.refl _ _)).2.2.1
    · exact VS.keep (belowAlloc (belowAlloc (belowAlloc (Below.refl _ _) _) _) _) HV.out
    rw [hval]
    rintro e w1 ⟨rfl, bel⟩
    have RZ := Lib.hid (threeBoxes bel)
    obtain ⟨z0, z1, z2, zf0, zf1, zf2⟩ := RZ.out
    have B1 := Lib.hid (belowNext (belowAlloc (belowAlloc (belowAlloc (Below.refl w.heap.size w) _) _) _) bel)
    clear bel
    go_wp2_with fail
    obtain ⟨t0, t1, t2, _⟩ := Row3.set (a' := .slice none 0 0) (b' := .bool false) (c' := .float .f32 0) RZ.out
    refine bodyPost_ret (v := .tuple #[givenV false (w.heap.size + 1 + 1) n c cl cu, .bool false]) (by simp [results, Try.results44, go_sem, t0, t1, t2, gN, gC, gA]) rfl ?_
    exact give_of rfl (fun h => by cases h) (by omega) (World.block_lt_of_cell? _ _ t0) (belowSet (belowSet (belowSet B1.out (by omega)) (by omega)) (by omega))
  · obtain ⟨h2, h48⟩ := valid_bounds hval
    have hb : twoB P (moveP P x y z) n cu = validB (moveP P x y z) n cu := by unfold twoB; rw [hval, Bool.true_and]
    rw [hb]
    clear hb
    go_enter Try.func44, Try.ntmps44
    go_wp2_with fail
    refine (spec_is _ b o n c cu P hn _ ?_ ?_ ?_).mono ?_
    · exact (firstBox (Below.refl _ _)).1
    · exact (firstBox (Below.refl _ _)).2.2.1
    · exact VS.keep (belowAlloc (belowAlloc (belowAlloc (Below.refl _ _) _) _) _) HV.out
    rw [hval]
    rintro e w1 ⟨rfl, bel⟩
    have RZ := Lib.hid (threeBoxes bel)
    obtain ⟨k0, k1, k2, kf0, kf1, kf2⟩ := firstBox bel
    have RV := Lib.hid (secBox bel)
    have V1 := Lib.hid (VS.keep bel (VS.keep (belowAlloc (belowAlloc (belowAlloc (Below.refl _ _) _) _) _) HV.out))
    have B1 := Lib.hid (belowNext (belowAlloc (belowAlloc (belowAlloc (Below.refl w.heap.size w) _) _) _) bel)
    have l1 : w.heap.size + 1 + 1 < w1.heap.size := World.block_lt_of_cell? _ _ RZ.out.1
    clear bel
    go_wp2_with fail
    refine (spec_own w.heap.size b o n c cu cl P (by omega) h48 _ k0 k1 k2 V1.out).mono ?_
    rintro e w2 ⟨g, cap, rfl, hw, hlg, bel⟩
    have RZ2 := Lib.hid (Row3.keep bel RZ.out)
    have RV2 := Lib.hid (Row3.keep bel RV.out)
    have B2 := Lib.hid (belowNext B1.out bel)
    have HW := Lib.hid hw
    have lg : g < w2.heap.size := hw.lt
    have l2 : w1.heap.size ≤ w2.heap.size := bel.size
    clear bel hw k0 k1 k2 kf0 kf1 kf2 V1 B1 RZ
    go_wp2_with fail
    go_loopw [7] (fun i wr => ∃ k : Nat, k ≤ n ∧ i = .int .i64 k ∧ LoopR g n P (moveP P x y z) k wr ∧ Row3 w2.heap.size (.slice (some ⟨g, 0, none⟩) n cap) (.bool cl) (.float .f32 cu) wr ∧ Row3 (w.heap.size + 1 + 1) (.slice none 0 0) (.bool false) (.float .f32 0) wr ∧ Row3 (w.heap.size + 1) (.float .f32 x) (.float .f32 y) (.float .f32 z) wr ∧ Below w.heap.size w wr) (fun i _ => n - (intOf i).toNat)
    case atStart => exact ⟨0, Nat.zero_le _, rfl, LoopR.start (HW.out.keep (belowAlloc (Below.refl _ _) _)), Row3.new _ _ _ _ _, Row3.keep (belowAlloc (Below.refl _ _) _) RZ2.out, Row3.keep (belowAlloc (Below.refl _ _) _) RV2.out, belowAlloc B2.out _⟩
    case round =>
      obtain ⟨k, hk, rfl, lr, rb, rz, rv, hbel⟩ := hrel
      have LR := Lib.hid lr
      have RB := Lib.hid rb
      have RW := Lib.hid rz
      have HB := Lib.hid hbel
      have lx : w2.heap.size < wr.heap.size := World.block_lt_of_cell? _ _ rb.1
      have RVV := Lib.hid rv
      obtain ⟨v0, v1, v2, _⟩ := rv
      have lv : w.heap.size + 1 < wr.heap.size := by omega
      obtain ⟨o0, o1, o2, _⟩ := rb
      clear lr rz hbel
      by_cases hlt : k < n
      · obtain ⟨x1, x2, x3⟩ := LR.out.three hlt
        have p0 : (0 : Int) ≤ (k : Int) := by omega
        have p1 : (k : Int) < (n : Int) := by omega
        go_wp2_with fail
        go_region_with ((go_at_call 85; refine (spec_add _ _ _ _ _ _ _).mono ?_; rintro e w' ⟨u, v, t, rfl, hu, hv2, ht, hb⟩; obtain ⟨g0, g1, g2, e0, e1, e2⟩ := Row3.keep (w := wr.drew) hb RB.out; obtain ⟨y1, y2, y3⟩ := (LoopR.keep (w := wr.drew) hb LR.out).three hlt; have fr0 := (LoopR.keep (w := wr.drew) hb LR.out).frozen (k * 3); have fr1 := (LoopR.keep (w := wr.drew) hb LR.out).frozen (k * 3 + 1); have fr2 := (LoopR.keep (w := wr.drew) hb LR.out).frozen (k * 3 + 2); have hbH := Lib.hid hb; clear hb))
        all_goals
          have ng0 : w2.heap.size ≠ g := by omega
          have ng1 : w.heap.size + 1 + 1 ≠ g := by omega
          have gl : w.heap.size ≤ g := by omega
          have ng2 : w.heap.size + 1 ≠ g := by omega
          have HX := Lib.hid (And.intro (LoopR.step (LoopR.keep (w := wr.drew) hbH.out LR.out) (by rw [(moveP_at P x y z k).1]; exact hu) (by rw [(moveP_at P x y z k).2.1]; exact hv2) (by rw [(moveP_at P x y z k).2.2]; exact ht)) (And.intro (Row3.setOne (Row3.setOne (Row3.setOne (Row3.keep (w := wr.drew) hbH.out RB.out) ng0 (i := k * 3) (u := .float .f32 u)) ng0 (i := k * 3 + 1) (u := .float .f32 v)) ng0 (i := k * 3 + 2) (u := .float .f32 t)) (And.intro (Row3.setOne (Row3.setOne (Row3.setOne (Row3.keep (w := wr.drew) hbH.out RW.out) ng1 (i := k * 3) (u := .float .f32 u)) ng1 (i := k * 3 + 1) (u := .float .f32 v)) ng1 (i := k * 3 + 2) (u := .float .f32 t)) (And.intro (Row3.setOne (Row3.setOne (Row3.setOne (Row3.keep (w := wr.drew) hbH.out RVV.out) ng2 (i := k * 3) (u := .float .f32 u)) ng2 (i := k * 3 + 1) (u := .float .f32 v)) ng2 (i := k * 3 + 2) (u := .float .f32 t)) (belowSet (j := k * 3 + 2) (u := .float .f32 t) (belowSet (j := k * 3 + 1) (u := .float .f32 v) (belowSet (j := k * 3) (u := .float .f32 u) (belowNext HB.out.drew hbH.out) gl) gl) gl)))))
          clear g0 g1 g2 e0 e1 e2 y1 y2 y3 fr0 fr1 fr2 hbH
          go_wp2_with fail
          go_roundw
          case rel => exact ⟨k + 1, by omega, by go_num, HX.out.1, HX.out.2.1, HX.out.2.2.1, HX.out.2.2.2⟩
          case measure => simp [intOf]; omega
      · obtain rfl : k = n := by omega
        obtain ⟨R, hw, hs⟩ := LR.out.done
        have HS := Lib.hid hs
        have HW2 := Lib.hid hw
        clear hw hs
        go_wp2_with fail
        refine (spec_give g k cap cu cl R hn _ HW2.out.vs).mono ?_
        rw [valid_same HS.out]
        rintro e w3 ⟨rfl, bel⟩
        have HX := Lib.hid (And.intro (Row3.keep bel RW.out) (And.intro (WRow.keep bel HW2.out) (belowNext HB.out bel)))
        obtain ⟨z0, z1, z2, y0, y1, y2⟩ := HX.out.1
        clear bel
        go_wp2_with fail
        obtain ⟨t0, t1, t2, _⟩ := Row3.set (a' := .slice (gA (validB (moveP P x y z) k cu) g) (gN (validB (moveP P x y z) k cu) k) (gN (validB (moveP P x y z) k cu) cap)) (b' := .bool (gC (validB (moveP P x y z) k cu) cl)) (c' := .float .f32 (gN (validB (moveP P x y z) k cu) cu)) HX.out.1
        refine bodyPost_ret (v := .tuple #[givenV (validB (moveP P x y z) k cu) g k cap cl cu, .bool (validB (moveP P x y z) k cu)]) (by simp [results, Try.results44, go_sem, t0, t1, t2]) rfl ?_
        have ng : g ≠ w.heap.size + 1 + 1 := by omega
        exact give_of rfl (fun hvq => ((((HX.out.2.1.congr (valid_eq HS.out hvq)).setOther ng).setOther ng).setOther ng)) (by omega) (by have := HX.out.2.1.lt; simpa using this) (belowSet (belowSet (belowSet HX.out.2.2 (by omega)) (by omega)) (by omega))
end Go.Proofs.Ytfcniebfoboogaa
