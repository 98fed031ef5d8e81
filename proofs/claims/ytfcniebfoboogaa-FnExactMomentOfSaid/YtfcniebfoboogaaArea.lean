/- The area and the moment of a wire. Conditions: as each says. -/
import Derived.Test.YtfcniebfoboogaaSeg
namespace Go.Proofs.Ytfcniebfoboogaa
open Go.RowKit
attribute [local go_sem ↓] Go.wp_at_zero Go.wp_at_succ

/-- A coordinate of the cross product of a segment's points. -/
def crX (P : Nat → Nat) (n i : Nat) : Nat := sb (mu (segC P n (i * 6 + 1)) (segC P n (i * 6 + 5))) (mu (segC P n (i * 6 + 2)) (segC P n (i * 6 + 4)))
def crY (P : Nat → Nat) (n i : Nat) : Nat := sb (mu (segC P n (i * 6 + 2)) (segC P n (i * 6 + 3))) (mu (segC P n (i * 6)) (segC P n (i * 6 + 5)))
def crZ (P : Nat → Nat) (n i : Nat) : Nat := sb (mu (segC P n (i * 6)) (segC P n (i * 6 + 4))) (mu (segC P n (i * 6 + 1)) (segC P n (i * 6 + 3)))
def arS (C : Nat → Nat) : Nat → Nat
  | 0 => 0
  | k + 1 => ad (arS C k) (C k)
def areaX (P : Nat → Nat) (n : Nat) (cl : Bool) : Nat := mu (arS (crX P n) (segN cl n)) 1056964608
def areaY (P : Nat → Nat) (n : Nat) (cl : Bool) : Nat := mu (arS (crY P n) (segN cl n)) 1056964608
def areaZ (P : Nat → Nat) (n : Nat) (cl : Bool) : Nat := mu (arS (crZ P n) (segN cl n)) 1056964608
theorem segN_le (cl : Bool) (n : Nat) : segN cl n ≤ n := by unfold segN; split <;> omega
/-- Returns both ends of a segment. -/
def EndsIs (P : Nat → Nat) (n i : Nat) (w : World) (e : Ending) (w' : World) : Prop :=
  e = .returned (.tuple #[vecV (segC P n (i * 6)) (segC P n (i * 6 + 1)) (segC P n (i * 6 + 2)), vecV (segC P n (i * 6 + 3)) (segC P n (i * 6 + 4)) (segC P n (i * 6 + 5))]) ∧ Below w.heap.size w w'
set_option maxRecDepth 100000 in
set_option maxHeartbeats 2000000 in
theorem spec_ends (p b o n c i : Nat) (P : Nat → Nat) (hi : i < n) (hn : n ≤ 1048576) (w : World) (c0 : w.cell? ⟨p, 0, none⟩ = some (.slice (some ⟨b, o, none⟩) n c)) (hv : VS w b o n P) :
    Calls Try.prog 96 #[.pointer (some ⟨p, 0, none⟩), .int .i64 (i : Int)] w (EndsIs P n i w) := by
  obtain ⟨j, hj⟩ : ∃ j, j = (i + 1) % n := ⟨_, rfl⟩
  have hjn : j < n := by rw [hj]; exact Nat.mod_lt _ (by omega)
  have hjq : Int.tmod ((i : Int) + 1) (n : Int) = (j : Int) := by
    rw [hj]
    have := Int.ofNat_tmod (i + 1) n
    simpa using this.symm
  have hjq2 : ((i : Int) + 1) % (n : Int) = (j : Int) := by
    rw [hj]
    simp
  have hn0 : ¬ n = 0 := by omega
  have hn1 : ((n : Int) == 0) = false := by simp; omega
  have hw2 : IntKind.i64.wrap (j : Int) = (j : Int) := IntWalk.i64_in _ (by omega)
  obtain ⟨x1, x2, x3⟩ := hv.three hi
  obtain ⟨y1, y2, y3⟩ := hv.three hjn
  have hp : p < w.heap.size := World.block_lt_of_cell? _ _ c0
  have hb : b < w.heap.size := World.block_lt_of_cell? _ _ x1
  have HS := Lib.hid (segC_at P n i)
  have HJ := Lib.hid hj
  have i0 : (0 : Int) ≤ (i : Int) := by omega
  have i1 : (i : Int) < (n : Int) := by omega
  have j0 : (0 : Int) ≤ (j : Int) := by omega
  have j1 : (j : Int) < (n : Int) := by omega
  have hw1 : IntKind.i64.wrap ((i : Int) + 1) = (i : Int) + 1 := IntWalk.i64_in _ (by omega)
  clear hj hv
  go_enter Try.func96, Try.ntmps96
  go_wp2_with fail
  go_region_held3 (fun w' => w'.cell? ⟨p, 0, none⟩ = some (.slice (some ⟨b, o, none⟩) n c) ∧
      w'.cell? ⟨b, o + i * 3, none⟩ = some (.float .f32 (P (i * 3))) ∧ w'.cell? ⟨b, o + i * 3 + 1, none⟩ = some (.float .f32 (P (i * 3 + 1))) ∧ w'.cell? ⟨b, o + i * 3 + 2, none⟩ = some (.float .f32 (P (i * 3 + 2))) ∧
      w'.cell? ⟨b, o + j * 3, none⟩ = some (.float .f32 (P (j * 3))) ∧ w'.cell? ⟨b, o + j * 3 + 1, none⟩ = some (.float .f32 (P (j * 3 + 1))) ∧ w'.cell? ⟨b, o + j * 3 + 2, none⟩ = some (.float .f32 (P (j * 3 + 2))))
    (go_keep) (fail)
  go_wp2_with fail
  refine bodyPost_ret (v := .tuple #[vecV (P (i * 3)) (P (i * 3 + 1)) (P (i * 3 + 2)), vecV (P (j * 3)) (P (j * 3 + 1)) (P (j * 3 + 2))]) (by simp [results, Try.results96, go_sem]) rfl ?_
  obtain ⟨s0, s1, s2, s3, s4, s5⟩ := HS.out
  refine ⟨by rw [s0, s1, s2, s3, s4, s5, ← HJ.out], ?_⟩
  exact (belowAlloc (belowAlloc (Below.refl _ _) _) _).drew
set_option maxRecDepth 100000 in
set_option maxHeartbeats 3200000 in
theorem spec_area (p b o n c : Nat) (cl : Bool) (P : Nat → Nat) (h2 : 2 ≤ n) (h48 : n ≤ 48) (w : World) (c0 : w.cell? ⟨p, 0, none⟩ = some (.slice (some ⟨b, o, none⟩) n c)) (c1 : w.cell? ⟨p, 1, none⟩ = some (.bool cl)) (hv : VS w b o n P) :
    Calls Try.prog 82 #[.pointer (some ⟨p, 0, none⟩)] w (VecIs (areaX P n cl) (areaY P n cl) (areaZ P n cl) w) := by
  have HV := Lib.hid hv
  have hp : p < w.heap.size := World.block_lt_of_cell? _ _ c0
  have hbs : b < w.heap.size := World.block_lt_of_cell? _ _ (hv.three (k := 0) (by omega)).1
  have hsn := segN_le cl n
  clear hv
  go_enter Try.func82, Try.ntmps82
  go_wp2_with fail
  go_loopw [4] (fun i wr => ∃ k : Nat, k ≤ segN cl n ∧ i = .int .i64 k ∧ Var3 (w.heap.size + 1) (arS (crX P n) k) (arS (crY P n) k) (arS (crZ P n) k) wr ∧ Row3 w.heap.size (.float .f32 0) (.float .f32 0) (.float .f32 0) wr ∧ w.heap.size + 1 < wr.heap.size ∧ Below w.heap.size w wr) (fun i _ => segN cl n - (intOf i).toNat)
  case atStart =>
    have e := Row3.new (w.alloc (.cells #[.float .f32 0, .float .f32 0, .float .f32 0] 49)) (.float .f32 0) (.float .f32 0) (.float .f32 0) 49
    rw [World.size_alloc] at e
    exact ⟨0, Nat.zero_le _, rfl, ⟨0, 0, 0, e, Same.refl _ _, Same.refl _ _, Same.refl _ _⟩, Row3.keep (belowAlloc (Below.refl _ _) _) (Row3.new _ _ _ _ _), by simp, belowAlloc (belowAlloc (Below.refl _ _) _) _⟩
  case round =>
    obtain ⟨k, hk, rfl, ⟨s0, s1, s2, ra, hs0, hs1, hs2⟩, rz, hsz, hbel⟩ := hrel
    have d0 := hbel.cell (p := ⟨p, 0, none⟩) hp
    rw [c0] at d0
    have d1 := hbel.cell (p := ⟨p, 1, none⟩) hp
    rw [c1] at d1
    have hvw := Lib.hid (VS.below hbel hbs HV.out)
    have HB := Lib.hid hbel
    have hpw : p < wr.heap.size := Nat.lt_of_lt_of_le hp hbel.size
    have RA := Lib.hid ra
    have RZ := Lib.hid rz
    obtain ⟨a0, a1, a2, _⟩ := ra
    clear hbel rz
    by_cases hlt : k < segN cl n
    · go_wp2_with (go_at_call 61; refine (spec_count p b o n c cl (by omega) (by omega) _ d0 d1).mono ?_; rintro e w' ⟨rfl, rfl⟩)
      refine (spec_ends p b o n c k P (by omega) (by omega) _ d0 hvw.out).mono ?_
      rintro e w1 ⟨rfl, bel⟩
      have ra1 := Row3.keep bel RA.out
      have rz1 := Row3.keep bel RZ.out
      have HB1 := Lib.hid (belowNext HB.out bel)
      have hsz1 : w.heap.size + 1 < w1.heap.size := Nat.lt_of_lt_of_le hsz bel.size
      have RZ1 := Lib.hid rz1
      have RA1 := Lib.hid ra1
      have hsz1' : w.heap.size + 1 < w1.heap.size + 1 := Nat.lt_succ_of_lt hsz1
      obtain ⟨b0, b1, b2, _⟩ := ra1
      clear bel rz1 a0 a1 a2 d0 d1 RA RZ HB hvw
      go_wp2_with fail
      have RA2 := Lib.hid (Row3.keep (belowAlloc (belowAlloc (Below.refl _ _) (.cells #[.float .f32 (segC P n (k * 6)), .float .f32 (segC P n (k * 6 + 1)), .float .f32 (segC P n (k * 6 + 2))] 49)) (.cells #[.float .f32 (segC P n (k * 6 + 3)), .float .f32 (segC P n (k * 6 + 4)), .float .f32 (segC P n (k * 6 + 5))] 49)) RA1.out)
      have RZ2 := Lib.hid (Row3.keep (belowAlloc (belowAlloc (Below.refl _ _) (.cells #[.float .f32 (segC P n (k * 6)), .float .f32 (segC P n (k * 6 + 1)), .float .f32 (segC P n (k * 6 + 2))] 49)) (.cells #[.float .f32 (segC P n (k * 6 + 3)), .float .f32 (segC P n (k * 6 + 4)), .float .f32 (segC P n (k * 6 + 5))] 49)) RZ1.out)
      go_region_with (first
        | (go_at_call 97; refine (spec_cross _ _ _ _ _ _ _).mono ?_; rintro e w3 ⟨u, v, t, rfl, hu, hv2, ht, hb3⟩; have RA3 := Lib.hid (Row3.keep hb3 (show Row3 _ _ _ _ (World.drew _) from RA2.out)); obtain ⟨r0, r1, r2, _⟩ := RA3.out; have hb3H := Lib.hid hb3; clear hb3)
        | (go_at_call 85; refine (spec_add _ _ _ _ _ _ _).mono ?_; rintro e w4 ⟨u4, v4, t4, rfl, hu4, hv4, ht4, hb4⟩; have RA4 := Lib.hid (Row3.keep hb4 RA3.out); obtain ⟨g0, g1, g2, e0, e1, e2⟩ := RA4.out; have hb4H := Lib.hid hb4; clear hb4))
      all_goals
        have rz4 := Row3.keep hb4H.out (Row3.keep hb3H.out (show Row3 _ _ _ _ (World.drew _) from RZ2.out))
        have hbn0 : Below w.heap.size w w4 := belowNext (belowNext (belowAlloc (belowAlloc HB1.out _) _).drew hb3H.out) hb4H.out
        have hsz4 : w.heap.size + 1 < w4.heap.size := World.block_lt_of_cell? _ _ RA4.out.1
        have hbn := belowSet (j := 2) (u := .float .f32 t4) (belowSet (j := 1) (u := .float .f32 v4) (belowSet (j := 0) (u := .float .f32 u4) hbn0 (Nat.le_succ w.heap.size)) (Nat.le_succ w.heap.size)) (Nat.le_succ w.heap.size)
        have hsz5 : w.heap.size + 1 < (((w4.setCell ⟨w.heap.size + 1, 0, none⟩ (.float .f32 u4)).setCell ⟨w.heap.size + 1, 1, none⟩ (.float .f32 v4)).setCell ⟨w.heap.size + 1, 2, none⟩ (.float .f32 t4)).heap.size := sizeSet (sizeSet (sizeSet hsz4))
        have HX := Lib.hid (And.intro (Row3.set (a' := .float .f32 u4) (b' := .float .f32 v4) (c' := .float .f32 t4) RA4.out) (And.intro (Row3.other (h := w.heap.size + 1) (a' := .float .f32 u4) (b' := .float .f32 v4) (c' := .float .f32 t4) rz4 (by omega)) (And.intro hsz5 hbn)))
        have HS := Lib.hid (And.intro (hu4.step hs0 hu) (And.intro (hv4.step hs1 hv2) (ht4.step hs2 ht)))
        clear rz4 hbn0 hsz4 hbn hsz5 g0 g1 g2 e0 e1 e2 RA4 RA3 hb3H hb4H RA2 RZ2 RA1 RZ1 hu hv2 ht hu4 hv4 ht4 b0 b1 b2 r0 r1 r2
        go_wp2_with fail
        go_roundw
        case rel => exact ⟨k + 1, by omega, by go_num, ⟨u4, v4, t4, HX.out.1, HS.out.1, HS.out.2.1, HS.out.2.2⟩, HX.out.2.1, HX.out.2.2.1, HX.out.2.2.2⟩
        case measure => simp [intOf]; omega
    · have hkk : k = segN cl n := by omega
      have HK := Lib.hid hkk
      clear hkk
      go_wp2_with (go_at_call 61; refine (spec_count p b o n c cl (by omega) (by omega) _ d0 d1).mono ?_; rintro e w' ⟨rfl, rfl⟩)
      refine (spec_scale _ _ _ _ _).mono ?_
      rintro e w1 ⟨u, v, t, rfl, hu, hv2, ht, bel⟩
      obtain ⟨z0, z1, z2, f0, f1, f2⟩ := Row3.keep bel RZ.out
      obtain ⟨t0, t1, t2, _⟩ := Row3.set (a' := .float .f32 u) (b' := .float .f32 v) (c' := .float .f32 t) (Row3.keep bel RZ.out)
      have hbn := belowSet (j := 2) (u := .float .f32 t) (belowSet (j := 1) (u := .float .f32 v) (belowSet (j := 0) (u := .float .f32 u) (belowNext HB.out bel) (Nat.le_refl w.heap.size)) (Nat.le_refl w.heap.size)) (Nat.le_refl w.heap.size)
      have HX := Lib.hid hbn
      have HS := Lib.hid (And.intro (hu.step hs0 (Same.refl _ _)) (And.intro (hv2.step hs1 (Same.refl _ _)) (ht.step hs2 (Same.refl _ _))))
      clear bel hbn hu hv2 ht
      go_wp2_with fail
      refine bodyPost_ret (v := vecV u v t) (by simp [results, Try.results82, go_sem, t0, t1, t2]) rfl ?_
      exact ⟨_, _, _, rfl, by unfold areaX; rw [← HK.out]; exact HS.out.1, by unfold areaY; rw [← HK.out]; exact HS.out.2.1, by unfold areaZ; rw [← HK.out]; exact HS.out.2.2, HX.out⟩
/-! ### The results -/
def areaB (P : Nat → Nat) (n cu : Nat) (cl : Bool) : Bool := validB P n cu && vfin (areaX P n cl) (areaY P n cl) (areaZ P n cl)
def momB (P : Nat → Nat) (n cu : Nat) (cl : Bool) : Bool := validB P n cu && vfin (mu (areaX P n cl) cu) (mu (areaY P n cl) cu) (mu (areaZ P n cl) cu)
set_option maxRecDepth 100000 in
set_option maxHeartbeats 2000000 in
theorem spec_AreaOf (b o n c cu : Nat) (cl : Bool) (P : Nat → Nat) (hn : n ≤ 9223372036854775807) (w : World) (hv : VS w b o n P) :
    Calls Try.prog 40 #[wireV (.slice (some ⟨b, o, none⟩) n c) cl cu] w (FlagVec (areaB P n cu cl) (areaX P n cl) (areaY P n cl) (areaZ P n cl) w) := by
  have HV := Lib.hid hv
  clear hv
  cases hval : validB P n cu
  · have e : areaB P n cu cl = false := by unfold areaB; rw [hval]; rfl
    rw [e]
    clear e
    go_enter Try.func40, Try.ntmps40
    go_wp2_with fail
    refine (spec_is _ b o n c cu P hn _ ?_ ?_ ?_).mono ?_
    · simp
    · simp
    · exact VS.keep (belowAlloc (belowAlloc (Below.refl _ _) _) _) HV.out
    rw [hval]
    rintro e w1 ⟨rfl, bel⟩
    have rz : Row3 (w.heap.size + 1) (.float .f32 0) (.float .f32 0) (.float .f32 0) w1 := by
      have e := Row3.new (w.alloc (.cells #[.slice (some ⟨b, o, none⟩) n c, .bool cl, .float .f32 cu] 30)) (.float .f32 0) (.float .f32 0) (.float .f32 0) 49
      rw [World.size_alloc] at e
      exact Row3.keep bel e
    obtain ⟨z0, z1, z2, zf0, zf1, zf2⟩ := rz
    obtain ⟨t0, t1, t2, _⟩ := Row3.set (a' := .float .f32 0) (b' := .float .f32 0) (c' := .float .f32 0) (⟨z0, z1, z2, zf0, zf1, zf2⟩ : Row3 (w.heap.size + 1) (.float .f32 0) (.float .f32 0) (.float .f32 0) w1)
    have B1 := Lib.hid (belowNext (belowAlloc (belowAlloc (Below.refl w.heap.size w) _) _) bel)
    clear bel
    go_wp2_with fail
    refine bodyPost_ret (v := .tuple #[vecV 0 0 0, .bool false]) (by simp [results, Try.results40, go_sem, t0, t1, t2]) rfl ?_
    exact ⟨0, 0, 0, rfl, Same.refl _ _, Same.refl _ _, Same.refl _ _, belowSet (belowSet (belowSet B1.out (Nat.le_succ _)) (Nat.le_succ _)) (Nat.le_succ _)⟩
  · obtain ⟨h2, h48⟩ := valid_bounds hval
    have e : areaB P n cu cl = vfin (areaX P n cl) (areaY P n cl) (areaZ P n cl) := by unfold areaB; rw [hval]; rfl
    rw [e]
    clear e
    go_enter Try.func40, Try.ntmps40
    go_wp2_with fail
    refine (spec_is _ b o n c cu P hn _ ?_ ?_ ?_).mono ?_
    · simp
    · simp
    · exact VS.keep (belowAlloc (belowAlloc (Below.refl _ _) _) _) HV.out
    rw [hval]
    rintro e w1 ⟨rfl, bel⟩
    have rz : Row3 (w.heap.size + 1) (.float .f32 0) (.float .f32 0) (.float .f32 0) w1 := by
      have e := Row3.new (w.alloc (.cells #[.slice (some ⟨b, o, none⟩) n c, .bool cl, .float .f32 cu] 30)) (.float .f32 0) (.float .f32 0) (.float .f32 0) 49
      rw [World.size_alloc] at e
      exact Row3.keep bel e
    have k0 : w1.cell? ⟨w.heap.size, 0, none⟩ = some (.slice (some ⟨b, o, none⟩) n c) := cellKeep bel (cellAlloc (by rw [World.cell?_alloc_new]; rfl) _)
    have k1 : w1.cell? ⟨w.heap.size, 1, none⟩ = some (.bool cl) := cellKeep bel (cellAlloc (by rw [World.cell?_alloc_new]; rfl) _)
    have k2 : w1.cell? ⟨w.heap.size, 2, none⟩ = some (.float .f32 cu) := cellKeep bel (cellAlloc (by rw [World.cell?_alloc_new]; rfl) _)
    have V1 := Lib.hid (VS.keep bel (VS.keep (belowAlloc (belowAlloc (Below.refl _ _) _) _) HV.out))
    have B1 := Lib.hid (belowNext (belowAlloc (belowAlloc (Below.refl w.heap.size w) _) _) bel)
    have RZ := Lib.hid rz
    clear bel rz
    go_wp2_with fail
    refine (spec_area _ b o n c cl P h2 h48 _ k0 k1 V1.out).mono ?_
    rintro e w2 ⟨x, y, z, rfl, hx, hy, hz, bel⟩
    have RZ2 := Lib.hid (Row3.keep bel RZ.out)
    have B2 := Lib.hid (belowNext B1.out bel)
    clear bel k0 k1 k2 V1 RZ B1
    go_wp2_with fail
    refine (spec_vector x y z _ _ _ hx hy hz _).mono ?_
    rintro e w3 ⟨u, v, t, rfl, hu, hv, ht, bel⟩
    have rz3 := Row3.keep bel RZ2.out
    have B3 := Lib.hid (belowNext B2.out bel)
    obtain ⟨z0, z1, z2, zf0, zf1, zf2⟩ := rz3
    obtain ⟨t0, t1, t2, _⟩ := Row3.set (a' := .float .f32 u) (b' := .float .f32 v) (c' := .float .f32 t) (⟨z0, z1, z2, zf0, zf1, zf2⟩ : Row3 (w.heap.size + 1) (.float .f32 0) (.float .f32 0) (.float .f32 0) w3)
    have HU := Lib.hid (And.intro hu (And.intro hv ht))
    clear bel hu hv ht RZ2 B2
    go_wp2_with fail
    refine bodyPost_ret (v := .tuple #[vecV u v t, .bool (vfin (areaX P n cl) (areaY P n cl) (areaZ P n cl))]) (by simp [results, Try.results40, go_sem, t0, t1, t2]) rfl ?_
    exact ⟨u, v, t, rfl, HU.out.1, HU.out.2.1, HU.out.2.2, belowSet (belowSet (belowSet B3.out (Nat.le_succ _)) (Nat.le_succ _)) (Nat.le_succ _)⟩
set_option maxRecDepth 100000 in
set_option maxHeartbeats 2000000 in
theorem spec_MomentOf (b o n c cu : Nat) (cl : Bool) (P : Nat → Nat) (hn : n ≤ 9223372036854775807) (w : World) (hv : VS w b o n P) :
    Calls Try.prog 42 #[wireV (.slice (some ⟨b, o, none⟩) n c) cl cu] w (FlagVec (momB P n cu cl) (mu (areaX P n cl) cu) (mu (areaY P n cl) cu) (mu (areaZ P n cl) cu) w) := by
  have HV := Lib.hid hv
  clear hv
  cases hval : validB P n cu
  · have e : momB P n cu cl = false := by unfold momB; rw [hval]; rfl
    rw [e]
    clear e
    go_enter Try.func42, Try.ntmps42
    go_wp2_with fail
    refine (spec_is _ b o n c cu P hn _ ?_ ?_ ?_).mono ?_
    · simp
    · simp
    · exact VS.keep (belowAlloc (belowAlloc (Below.refl _ _) _) _) HV.out
    rw [hval]
    rintro e w1 ⟨rfl, bel⟩
    have rz : Row3 (w.heap.size + 1) (.float .f32 0) (.float .f32 0) (.float .f32 0) w1 := by
      have e := Row3.new (w.alloc (.cells #[.slice (some ⟨b, o, none⟩) n c, .bool cl, .float .f32 cu] 30)) (.float .f32 0) (.float .f32 0) (.float .f32 0) 49
      rw [World.size_alloc] at e
      exact Row3.keep bel e
    obtain ⟨z0, z1, z2, zf0, zf1, zf2⟩ := rz
    obtain ⟨t0, t1, t2, _⟩ := Row3.set (a' := .float .f32 0) (b' := .float .f32 0) (c' := .float .f32 0) (⟨z0, z1, z2, zf0, zf1, zf2⟩ : Row3 (w.heap.size + 1) (.float .f32 0) (.float .f32 0) (.float .f32 0) w1)
    have B1 := Lib.hid (belowNext (belowAlloc (belowAlloc (Below.refl w.heap.size w) _) _) bel)
    clear bel
    go_wp2_with fail
    refine bodyPost_ret (v := .tuple #[vecV 0 0 0, .bool false]) (by simp [results, Try.results42, go_sem, t0, t1, t2]) rfl ?_
    exact ⟨0, 0, 0, rfl, Same.refl _ _, Same.refl _ _, Same.refl _ _, belowSet (belowSet (belowSet B1.out (Nat.le_succ _)) (Nat.le_succ _)) (Nat.le_succ _)⟩
  · obtain ⟨h2, h48⟩ := valid_bounds hval
    have e : momB P n cu cl = vfin (mu (areaX P n cl) cu) (mu (areaY P n cl) cu) (mu (areaZ P n cl) cu) := by unfold momB; rw [hval]; rfl
    rw [e]
    clear e
    go_enter Try.func42, Try.ntmps42
    go_wp2_with fail
    refine (spec_is _ b o n c cu P hn _ ?_ ?_ ?_).mono ?_
    · simp
    · simp
    · exact VS.keep (belowAlloc (belowAlloc (Below.refl _ _) _) _) HV.out
    rw [hval]
    rintro e w1 ⟨rfl, bel⟩
    have rz : Row3 (w.heap.size + 1) (.float .f32 0) (.float .f32 0) (.float .f32 0) w1 := by
      have e := Row3.new (w.alloc (.cells #[.slice (some ⟨b, o, none⟩) n c, .bool cl, .float .f32 cu] 30)) (.float .f32 0) (.float .f32 0) (.float .f32 0) 49
      rw [World.size_alloc] at e
      exact Row3.keep bel e
    have k0 : w1.cell? ⟨w.heap.size, 0, none⟩ = some (.slice (some ⟨b, o, none⟩) n c) := cellKeep bel (cellAlloc (by rw [World.cell?_alloc_new]; rfl) _)
    have k1 : w1.cell? ⟨w.heap.size, 1, none⟩ = some (.bool cl) := cellKeep bel (cellAlloc (by rw [World.cell?_alloc_new]; rfl) _)
    have k2 : w1.cell? ⟨w.heap.size, 2, none⟩ = some (.float .f32 cu) := cellKeep bel (cellAlloc (by rw [World.cell?_alloc_new]; rfl) _)
    have V1 := Lib.hid (VS.keep bel (VS.keep (belowAlloc (belowAlloc (Below.refl _ _) _) _) HV.out))
    have B1 := Lib.hid (belowNext (belowAlloc (belowAlloc (Below.refl w.heap.size w) _) _) bel)
    have RZ := Lib.hid rz
    clear bel rz
    go_wp2_with fail
    go_region_with (first
      | (go_at_call 82; refine (spec_area _ b o n c cl P h2 h48 _ (show World.cell? (World.drew _) _ = _ from k0) (show World.cell? (World.drew _) _ = _ from k1) (show VS (World.drew _) _ _ _ _ from V1.out)).mono ?_; rintro e w2 ⟨x, y, z, rfl, hx, hy, hz, bel⟩; have k2' := cellKeep bel (show World.cell? (World.drew _) _ = _ from k2); have RZ2 := Lib.hid (Row3.keep bel (show Row3 _ _ _ _ (World.drew _) from RZ.out)); have B2 := Lib.hid (belowNext B1.out.drew bel); have HX := Lib.hid (And.intro hx (And.intro hy hz)); clear bel hx hy hz)
      | (go_at_call 84; refine (spec_scale _ _ _ _ _).mono ?_; rintro e w3 ⟨x3, y3, z3, rfl, hx3, hy3, hz3, bel3⟩; have RZ3 := Lib.hid (Row3.keep bel3 RZ2.out); have B3 := Lib.hid (belowNext B2.out bel3); have HY := Lib.hid (And.intro (hx3.step HX.out.1 (Same.refl _ _)) (And.intro (hy3.step HX.out.2.1 (Same.refl _ _)) (hz3.step HX.out.2.2 (Same.refl _ _)))); clear bel3 hx3 hy3 hz3)
      | (go_at_call 72; refine (spec_vector x3 y3 z3 (mu (areaX P n cl) cu) (mu (areaY P n cl) cu) (mu (areaZ P n cl) cu) HY.out.1 HY.out.2.1 HY.out.2.2 _).mono ?_; rintro e w4 ⟨u, v, t, rfl, hu, hv, ht, bel4⟩; have RZ4 := Lib.hid (Row3.keep bel4 RZ3.out); have B4 := Lib.hid (belowNext B3.out bel4); obtain ⟨z0, z1, z2, zf0, zf1, zf2⟩ := RZ4.out; have HU := Lib.hid (And.intro hu (And.intro hv ht)); clear bel4 hu hv ht))
    all_goals
      obtain ⟨t0, t1, t2, _⟩ := Row3.set (a' := .float .f32 u) (b' := .float .f32 v) (c' := .float .f32 t) RZ4.out
      go_wp2_with fail
      refine bodyPost_ret (v := .tuple #[vecV u v t, .bool (vfin (mu (areaX P n cl) cu) (mu (areaY P n cl) cu) (mu (areaZ P n cl) cu))]) (by simp [results, Try.results42, go_sem, t0, t1, t2]) rfl ?_
      exact ⟨u, v, t, rfl, HU.out.1, HU.out.2.1, HU.out.2.2, belowSet (belowSet (belowSet B4.out (Nat.le_succ _)) (Nat.le_succ _)) (Nat.le_succ _)⟩
/-- The cells of m segments. -/
def SegCells (P : Nat → Nat) (n m g : Nat) (w : World) : Prop := ∀ j, j < m * 6 → w.cell? ⟨g, j, none⟩ = some (.float .f32 (segC P n j))
theorem SegCells.keep {P : Nat → Nat} {n m g : Nat} {w w' : World} (hb : Below w.heap.size w w') (h : SegCells P n m g w) : SegCells P n m g w' := fun j hj => cellKeep hb (h j hj)
theorem SegCells.store {P : Nat → Nat} {n m g k : Nat} {w : World} {a b c : Value} (h : SegCells P n m g w) (hne : g ≠ k) : SegCells P n m g (((w.setCell ⟨k, 0, none⟩ a).setCell ⟨k, 1, none⟩ b).setCell ⟨k, 2, none⟩ c) := fun j hj => cellAt (cellAt (cellAt (h j hj) hne) hne) hne
theorem SegCells.own {P : Nat → Nat} {n m g cap base : Nat} {E : TypeId} {w : World} (h : w.ownsRow base E 6 (.slice (some ⟨g, 0, none⟩) m cap) m (segL P n m)) : SegCells P n m g w := fun j hj => by
  rw [h.cellAt j hj]
  unfold segL
  rw [List.getElem?_map, List.getElem?_range hj]
  rfl
theorem SegCells.six {P : Nat → Nat} {n m g : Nat} {w : World} (h : SegCells P n m g w) {k : Nat} (hk : k < m) : w.cell? ⟨g, k * 6, none⟩ = some (.float .f32 (segC P n (k * 6))) ∧ w.cell? ⟨g, k * 6 + 1, none⟩ = some (.float .f32 (segC P n (k * 6 + 1))) ∧ w.cell? ⟨g, k * 6 + 2, none⟩ = some (.float .f32 (segC P n (k * 6 + 2))) ∧
    w.cell? ⟨g, k * 6 + 3, none⟩ = some (.float .f32 (segC P n (k * 6 + 3))) ∧ w.cell? ⟨g, k * 6 + 4, none⟩ = some (.float .f32 (segC P n (k * 6 + 4))) ∧ w.cell? ⟨g, k * 6 + 5, none⟩ = some (.float .f32 (segC P n (k * 6 + 5))) :=
  ⟨h _ (by omega), h _ (by omega), h _ (by omega), h _ (by omega), h _ (by omega), h _ (by omega)⟩
set_option maxRecDepth 100000 in
set_option maxHeartbeats 3200000 in
theorem impl_area (b o n c cu : Nat) (cl : Bool) (P : Nat → Nat) (h2 : 2 ≤ n) (h48 : n ≤ 48) (w : World) (hv : VS w b o n P) :
    Calls Try.prog 83 #[wireV (.slice (some ⟨b, o, none⟩) n c) cl cu] w (VecIs (areaX P n cl) (areaY P n cl) (areaZ P n cl) w) := by
  have HV := Lib.hid hv
  have hsn := segN_le cl n
  clear hv
  go_enter Try.func83, Try.ntmps83
  go_wp2_with fail
  refine (impl_segments b o n c cu cl P h2 h48 _ (VS.keep (belowAlloc (belowAlloc (belowAlloc (Below.refl _ _) _) _) _) HV.out)).mono ?_
  rintro e w1 ⟨g, cap, rfl, hown, bel⟩
  have lg := hown.lt g rfl
  simp only [World.size_alloc] at lg
  have ng : g ≠ w.heap.size + 1 + 1 := by omega
  have ng' : g ≠ w.heap.size + 1 := by omega
  have SC := SegCells.own hown
  have rz : Row3 (w.heap.size + 1) (.float .f32 0) (.float .f32 0) (.float .f32 0) w1 := by
    have e := Row3.new (w.alloc (.cells #[.slice (some ⟨b, o, none⟩) n c, .bool cl, .float .f32 cu] 30)) (.float .f32 0) (.float .f32 0) (.float .f32 0) 49
    rw [World.size_alloc] at e
    exact Row3.keep bel (Row3.keep (belowAlloc (Below.refl _ _) _) e)
  have rs : Row3 (w.heap.size + 1 + 1) (.float .f32 0) (.float .f32 0) (.float .f32 0) w1 := by
    have e := Row3.new ((w.alloc (.cells #[.slice (some ⟨b, o, none⟩) n c, .bool cl, .float .f32 cu] 30)).alloc (.cells #[.float .f32 0, .float .f32 0, .float .f32 0] 49)) (.float .f32 0) (.float .f32 0) (.float .f32 0) 49
    simp only [World.size_alloc] at e
    exact Row3.keep bel e
  have B1 := belowNext (belowAlloc (belowAlloc (belowAlloc (Below.refl w.heap.size w) _) _) _) bel
  have H1 := Lib.hid (And.intro SC (And.intro rz (And.intro rs B1)))
  clear bel hown SC rz rs B1
  go_wp2_with fail
  go_loopw [5, 10] (fun _ i wr => ∃ k : Nat, k ≤ segN cl n ∧ i = .int .i64 k ∧ Var3 (w.heap.size + 1 + 1) (arS (crX P n) k) (arS (crY P n) k) (arS (crZ P n) k) wr ∧ Row3 (w.heap.size + 1) (.float .f32 0) (.float .f32 0) (.float .f32 0) wr ∧ SegCells P n (segN cl n) g wr ∧ Below w.heap.size w wr) (fun _ i _ => segN cl n - (intOf i).toNat)
  case atStart => exact ⟨0, Nat.zero_le _, rfl, ⟨0, 0, 0, H1.out.2.2.1, Same.refl _ _, Same.refl _ _, Same.refl _ _⟩, H1.out.2.1, H1.out.1, H1.out.2.2.2⟩
  case round =>
    obtain ⟨k, hk, rfl, ⟨s0, s1, s2, ra, hs0, hs1, hs2⟩, rz, hsc, hbel⟩ := hrel
    have HB := Lib.hid hbel
    have RA := Lib.hid ra
    have RZ := Lib.hid rz
    have SCH := Lib.hid hsc
    have lsum : w.heap.size + 1 + 1 < wr.heap.size := World.block_lt_of_cell? _ _ ra.1
    obtain ⟨a0, a1, a2, _⟩ := ra
    clear hbel rz hsc H1
    by_cases hlt : k < segN cl n
    · obtain ⟨c0, c1, c2, c3, c4, c5⟩ := SCH.out.six hlt
      have lgr : g < wr.heap.size := World.block_lt_of_cell? _ _ c0
      go_wp2_with fail
      have RA2 := Lib.hid (Row3.keep (belowAlloc (Below.refl _ _) (.cells #[.float .f32 (segC P n (k * 6)), .float .f32 (segC P n (k * 6 + 1)), .float .f32 (segC P n (k * 6 + 2)), .float .f32 (segC P n (k * 6 + 3)), .float .f32 (segC P n (k * 6 + 4)), .float .f32 (segC P n (k * 6 + 5))] 91)) RA.out)
      have RZ2 := Lib.hid (Row3.keep (belowAlloc (Below.refl _ _) (.cells #[.float .f32 (segC P n (k * 6)), .float .f32 (segC P n (k * 6 + 1)), .float .f32 (segC P n (k * 6 + 2)), .float .f32 (segC P n (k * 6 + 3)), .float .f32 (segC P n (k * 6 + 4)), .float .f32 (segC P n (k * 6 + 5))] 91)) RZ.out)
      have SC2 := Lib.hid (SegCells.keep (belowAlloc (Below.refl _ _) (.cells #[.float .f32 (segC P n (k * 6)), .float .f32 (segC P n (k * 6 + 1)), .float .f32 (segC P n (k * 6 + 2)), .float .f32 (segC P n (k * 6 + 3)), .float .f32 (segC P n (k * 6 + 4)), .float .f32 (segC P n (k * 6 + 5))] 91)) SCH.out)
      go_region_with (first
        | (go_at_call 98; refine (impl_cross _ _ _ _ _ _ _).mono ?_; rintro e w3 ⟨u, v, t, rfl, hu, hv2, ht, hb3⟩; have RA3 := Lib.hid (Row3.keep hb3 (show Row3 _ _ _ _ (World.drew _) from RA2.out)); obtain ⟨r0, r1, r2, _⟩ := RA3.out; have hb3H := Lib.hid hb3; clear hb3)
        | (go_at_call 74; refine (impl_add _ _ _ _ _ _ _).mono ?_; rintro e w4 ⟨u4, v4, t4, rfl, hu4, hv4, ht4, hb4⟩; have RA4 := Lib.hid (Row3.keep hb4 RA3.out); obtain ⟨g0, g1, g2, e0, e1, e2⟩ := RA4.out; have hb4H := Lib.hid hb4; clear hb4))
      all_goals
        have rz4 := Row3.keep hb4H.out (Row3.keep hb3H.out (show Row3 _ _ _ _ (World.drew _) from RZ2.out))
        have sc4 := SegCells.keep hb4H.out (SegCells.keep hb3H.out (show SegCells _ _ _ _ (World.drew _) from SC2.out))
        have hbn0 : Below w.heap.size w w4 := belowNext (belowNext (belowAlloc HB.out _).drew hb3H.out) hb4H.out
        have l2 : w.heap.size ≤ w.heap.size + 1 + 1 := by omega
        have hbn := belowSet (j := 2) (u := .float .f32 t4) (belowSet (j := 1) (u := .float .f32 v4) (belowSet (j := 0) (u := .float .f32 u4) hbn0 l2) l2) l2
        have HX := Lib.hid (And.intro (Row3.set (a' := .float .f32 u4) (b' := .float .f32 v4) (c' := .float .f32 t4) RA4.out) (And.intro (Row3.other (h := w.heap.size + 1 + 1) (a' := .float .f32 u4) (b' := .float .f32 v4) (c' := .float .f32 t4) rz4 (by omega)) (And.intro (SegCells.store (a := .float .f32 u4) (b := .float .f32 v4) (c := .float .f32 t4) sc4 ng) hbn)))
        have HS := Lib.hid (And.intro (hu4.step hs0 hu) (And.intro (hv4.step hs1 hv2) (ht4.step hs2 ht)))
        clear rz4 sc4 hbn0 hbn g0 g1 g2 e0 e1 e2 RA4 RA3 hb3H hb4H RA2 RZ2 SC2 hu hv2 ht hu4 hv4 ht4 a0 a1 a2 r0 r1 r2 c0 c1 c2 c3 c4 c5
        go_wp2_with fail
        go_roundw
        case rel => exact ⟨k + 1, by omega, by go_num, ⟨u4, v4, t4, HX.out.1, HS.out.1, HS.out.2.1, HS.out.2.2⟩, HX.out.2.1, HX.out.2.2.1, HX.out.2.2.2⟩
        case measure => simp [intOf]; omega
    · have hkk : k = segN cl n := by omega
      have HK := Lib.hid hkk
      clear hkk
      go_wp2_with fail
      refine (impl_scale _ _ _ _ _).mono ?_
      rintro e w3 ⟨u, v, t, rfl, hu, hv2, ht, bel⟩
      obtain ⟨z0, z1, z2, f0, f1, f2⟩ := Row3.keep bel RZ.out
      obtain ⟨t0, t1, t2, _⟩ := Row3.set (a' := .float .f32 u) (b' := .float .f32 v) (c' := .float .f32 t) (Row3.keep bel RZ.out)
      have hbn := belowSet (j := 2) (u := .float .f32 t) (belowSet (j := 1) (u := .float .f32 v) (belowSet (j := 0) (u := .float .f32 u) (belowNext HB.out bel) (Nat.le_succ w.heap.size)) (Nat.le_succ w.heap.size)) (Nat.le_succ w.heap.size)
      have HX := Lib.hid hbn
      have HS := Lib.hid (And.intro (hu.step hs0 (Same.refl _ _)) (And.intro (hv2.step hs1 (Same.refl _ _)) (ht.step hs2 (Same.refl _ _))))
      clear bel hbn hu hv2 ht
      go_wp2_with fail
      refine bodyPost_ret (v := vecV u v t) (by simp [results, Try.results83, go_sem, t0, t1, t2]) rfl ?_
      exact ⟨_, _, _, rfl, by unfold areaX; rw [← HK.out]; exact HS.out.1, by unfold areaY; rw [← HK.out]; exact HS.out.2.1, by unfold areaZ; rw [← HK.out]; exact HS.out.2.2, HX.out⟩
set_option maxRecDepth 100000 in
set_option maxHeartbeats 2000000 in
theorem impl_AreaOf (b o n c cu : Nat) (cl : Bool) (P : Nat → Nat) (hn : n ≤ 9223372036854775807) (w : World) (hv : VS w b o n P) :
    Calls Try.prog 41 #[wireV (.slice (some ⟨b, o, none⟩) n c) cl cu] w (FlagVec (areaB P n cu cl) (areaX P n cl) (areaY P n cl) (areaZ P n cl) w) := by
  have HV := Lib.hid hv
  clear hv
  cases hval : validB P n cu
  · have e : areaB P n cu cl = false := by unfold areaB; rw [hval]; rfl
    rw [e]
    clear e
    go_enter Try.func41, Try.ntmps41
    go_wp2_with fail
    refine (impl_ValidWire b o n c cu cl P hn _ (VS.keep (belowAlloc (belowAlloc (Below.refl _ _) _) _) HV.out)).mono ?_
    rw [hval]
    rintro e w1 ⟨rfl, bel⟩
    have rz : Row3 (w.heap.size + 1) (.float .f32 0) (.float .f32 0) (.float .f32 0) w1 := by
      have e := Row3.new (w.alloc (.cells #[.slice (some ⟨b, o, none⟩) n c, .bool cl, .float .f32 cu] 30)) (.float .f32 0) (.float .f32 0) (.float .f32 0) 49
      rw [World.size_alloc] at e
      exact Row3.keep bel e
    obtain ⟨z0, z1, z2, zf0, zf1, zf2⟩ := rz
    obtain ⟨t0, t1, t2, _⟩ := Row3.set (a' := .float .f32 0) (b' := .float .f32 0) (c' := .float .f32 0) (⟨z0, z1, z2, zf0, zf1, zf2⟩ : Row3 (w.heap.size + 1) (.float .f32 0) (.float .f32 0) (.float .f32 0) w1)
    have B1 := Lib.hid (belowNext (belowAlloc (belowAlloc (Below.refl w.heap.size w) _) _) bel)
    clear bel
    go_wp2_with fail
    refine bodyPost_ret (v := .tuple #[vecV 0 0 0, .bool false]) (by simp [results, Try.results41, go_sem, t0, t1, t2]) rfl ?_
    exact ⟨0, 0, 0, rfl, Same.refl _ _, Same.refl _ _, Same.refl _ _, belowSet (belowSet (belowSet B1.out (Nat.le_succ _)) (Nat.le_succ _)) (Nat.le_succ _)⟩
  · obtain ⟨h2, h48⟩ := valid_bounds hval
    have e : areaB P n cu cl = vfin (areaX P n cl) (areaY P n cl) (areaZ P n cl) := by unfold areaB; rw [hval]; rfl
    rw [e]
    clear e
    go_enter Try.func41, Try.ntmps41
    go_wp2_with fail
    refine (impl_ValidWire b o n c cu cl P hn _ (VS.keep (belowAlloc (belowAlloc (Below.refl _ _) _) _) HV.out)).mono ?_
    rw [hval]
    rintro e w1 ⟨rfl, bel⟩
    have rz : Row3 (w.heap.size + 1) (.float .f32 0) (.float .f32 0) (.float .f32 0) w1 := by
      have e := Row3.new (w.alloc (.cells #[.slice (some ⟨b, o, none⟩) n c, .bool cl, .float .f32 cu] 30)) (.float .f32 0) (.float .f32 0) (.float .f32 0) 49
      rw [World.size_alloc] at e
      exact Row3.keep bel e
    have k0 : w1.cell? ⟨w.heap.size, 0, none⟩ = some (.slice (some ⟨b, o, none⟩) n c) := cellKeep bel (cellAlloc (by rw [World.cell?_alloc_new]; rfl) _)
    have k1 : w1.cell? ⟨w.heap.size, 1, none⟩ = some (.bool cl) := cellKeep bel (cellAlloc (by rw [World.cell?_alloc_new]; rfl) _)
    have k2 : w1.cell? ⟨w.heap.size, 2, none⟩ = some (.float .f32 cu) := cellKeep bel (cellAlloc (by rw [World.cell?_alloc_new]; rfl) _)
    have V1 := Lib.hid (VS.keep bel (VS.keep (belowAlloc (belowAlloc (Below.refl _ _) _) _) HV.out))
    have B1 := Lib.hid (belowNext (belowAlloc (belowAlloc (Below.refl w.heap.size w) _) _) bel)
    have RZ := Lib.hid rz
    clear bel rz
    go_wp2_with fail
    refine (impl_area b o n c cu cl P h2 h48 _ V1.out).mono ?_
    rintro e w2 ⟨x, y, z, rfl, hx, hy, hz, bel⟩
    have RZ2 := Lib.hid (Row3.keep bel RZ.out)
    have B2 := Lib.hid (belowNext B1.out bel)
    clear bel k0 k1 k2 V1 RZ B1
    go_wp2_with fail
    refine (impl_ifVector x y z _ _ _ hx hy hz _).mono ?_
    rintro e w3 ⟨u, v, t, rfl, hu, hv, ht, bel⟩
    have rz3 := Row3.keep bel RZ2.out
    have B3 := Lib.hid (belowNext B2.out bel)
    obtain ⟨z0, z1, z2, zf0, zf1, zf2⟩ := rz3
    obtain ⟨t0, t1, t2, _⟩ := Row3.set (a' := .float .f32 u) (b' := .float .f32 v) (c' := .float .f32 t) (⟨z0, z1, z2, zf0, zf1, zf2⟩ : Row3 (w.heap.size + 1) (.float .f32 0) (.float .f32 0) (.float .f32 0) w3)
    have HU := Lib.hid (And.intro hu (And.intro hv ht))
    clear bel hu hv ht RZ2 B2
    go_wp2_with fail
    refine bodyPost_ret (v := .tuple #[vecV u v t, .bool (vfin (areaX P n cl) (areaY P n cl) (areaZ P n cl))]) (by simp [results, Try.results41, go_sem, t0, t1, t2]) rfl ?_
    exact ⟨u, v, t, rfl, HU.out.1, HU.out.2.1, HU.out.2.2, belowSet (belowSet (belowSet B3.out (Nat.le_succ _)) (Nat.le_succ _)) (Nat.le_succ _)⟩
set_option maxRecDepth 100000 in
set_option maxHeartbeats 2000000 in
theorem impl_MomentOf (b o n c cu : Nat) (cl : Bool) (P : Nat → Nat) (hn : n ≤ 9223372036854775807) (w : World) (hv : VS w b o n P) :
    Calls Try.prog 43 #[wireV (.slice (some ⟨b, o, none⟩) n c) cl cu] w (FlagVec (momB P n cu cl) (mu (areaX P n cl) cu) (mu (areaY P n cl) cu) (mu (areaZ P n cl) cu) w) := by
  have HV := Lib.hid hv
  clear hv
  cases hval : validB P n cu
  · have e : momB P n cu cl = false := by unfold momB; rw [hval]; rfl
    rw [e]
    clear e
    go_enter Try.func43, Try.ntmps43
    go_wp2_with fail
    refine (impl_ValidWire b o n c cu cl P hn _ (VS.keep (belowAlloc (belowAlloc (Below.refl _ _) _) _) HV.out)).mono ?_
    rw [hval]
    rintro e w1 ⟨rfl, bel⟩
    have rz : Row3 (w.heap.size + 1) (.float .f32 0) (.float .f32 0) (.float .f32 0) w1 := by
      have e := Row3.new (w.alloc (.cells #[.slice (some ⟨b, o, none⟩) n c, .bool cl, .float .f32 cu] 30)) (.float .f32 0) (.float .f32 0) (.float .f32 0) 49
      rw [World.size_alloc] at e
      exact Row3.keep bel e
    obtain ⟨z0, z1, z2, zf0, zf1, zf2⟩ := rz
    obtain ⟨t0, t1, t2, _⟩ := Row3.set (a' := .float .f32 0) (b' := .float .f32 0) (c' := .float .f32 0) (⟨z0, z1, z2, zf0, zf1, zf2⟩ : Row3 (w.heap.size + 1) (.float .f32 0) (.float .f32 0) (.float .f32 0) w1)
    have B1 := Lib.hid (belowNext (belowAlloc (belowAlloc (Below.refl w.heap.size w) _) _) bel)
    clear bel
    go_wp2_with fail
    refine bodyPost_ret (v := .tuple #[vecV 0 0 0, .bool false]) (by simp [results, Try.results43, go_sem, t0, t1, t2]) rfl ?_
    exact ⟨0, 0, 0, rfl, Same.refl _ _, Same.refl _ _, Same.refl _ _, belowSet (belowSet (belowSet B1.out (Nat.le_succ _)) (Nat.le_succ _)) (Nat.le_succ _)⟩
  · obtain ⟨h2, h48⟩ := valid_bounds hval
    have e : momB P n cu cl = vfin (mu (areaX P n cl) cu) (mu (areaY P n cl) cu) (mu (areaZ P n cl) cu) := by unfold momB; rw [hval]; rfl
    rw [e]
    clear e
    go_enter Try.func43, Try.ntmps43
    go_wp2_with fail
    refine (impl_ValidWire b o n c cu cl P hn _ (VS.keep (belowAlloc (belowAlloc (Below.refl _ _) _) _) HV.out)).mono ?_
    rw [hval]
    rintro e w1 ⟨rfl, bel⟩
    have rz : Row3 (w.heap.size + 1) (.float .f32 0) (.float .f32 0) (.float .f32 0) w1 := by
      have e := Row3.new (w.alloc (.cells #[.slice (some ⟨b, o, none⟩) n c, .bool cl, .float .f32 cu] 30)) (.float .f32 0) (.float .f32 0) (.float .f32 0) 49
      rw [World.size_alloc] at e
      exact Row3.keep bel e
    have k0 : w1.cell? ⟨w.heap.size, 0, none⟩ = some (.slice (some ⟨b, o, none⟩) n c) := cellKeep bel (cellAlloc (by rw [World.cell?_alloc_new]; rfl) _)
    have k1 : w1.cell? ⟨w.heap.size, 1, none⟩ = some (.bool cl) := cellKeep bel (cellAlloc (by rw [World.cell?_alloc_new]; rfl) _)
    have k2 : w1.cell? ⟨w.heap.size, 2, none⟩ = some (.float .f32 cu) := cellKeep bel (cellAlloc (by rw [World.cell?_alloc_new]; rfl) _)
    have V1 := Lib.hid (VS.keep bel (VS.keep (belowAlloc (belowAlloc (Below.refl _ _) _) _) HV.out))
    have B1 := Lib.hid (belowNext (belowAlloc (belowAlloc (Below.refl w.heap.size w) _) _) bel)
    have RZ := Lib.hid rz
    clear bel rz
    go_wp2_with fail
    go_region_with (first
      | (go_at_call 83; refine (impl_area b o n c cu cl P h2 h48 _ (show VS (World.drew _) _ _ _ _ from V1.out)).mono ?_; rintro e w2 ⟨x, y, z, rfl, hx, hy, hz, bel⟩; have k2' := cellKeep bel (show World.cell? (World.drew _) _ = _ from k2); have RZ2 := Lib.hid (Row3.keep bel (show Row3 _ _ _ _ (World.drew _) from RZ.out)); have B2 := Lib.hid (belowNext B1.out.drew bel); have HX := Lib.hid (And.intro hx (And.intro hy hz)); clear bel hx hy hz)
      | (go_at_call 76; refine (impl_scale _ _ _ _ _).mono ?_; rintro e w3 ⟨x3, y3, z3, rfl, hx3, hy3, hz3, bel3⟩; have RZ3 := Lib.hid (Row3.keep bel3 RZ2.out); have B3 := Lib.hid (belowNext B2.out bel3); have HY := Lib.hid (And.intro (hx3.step HX.out.1 (Same.refl _ _)) (And.intro (hy3.step HX.out.2.1 (Same.refl _ _)) (hz3.step HX.out.2.2 (Same.refl _ _)))); clear bel3 hx3 hy3 hz3)
      | (go_at_call 75; refine (impl_ifVector x3 y3 z3 (mu (areaX P n cl) cu) (mu (areaY P n cl) cu) (mu (areaZ P n cl) cu) HY.out.1 HY.out.2.1 HY.out.2.2 _).mono ?_; rintro e w4 ⟨u, v, t, rfl, hu, hv, ht, bel4⟩; have RZ4 := Lib.hid (Row3.keep bel4 RZ3.out); have B4 := Lib.hid (belowNext B3.out bel4); obtain ⟨z0, z1, z2, zf0, zf1, zf2⟩ := RZ4.out; have HU := Lib.hid (And.intro hu (And.intro hv ht)); clear bel4 hu hv ht))
    all_goals
      obtain ⟨t0, t1, t2, _⟩ := Row3.set (a' := .float .f32 u) (b' := .float .f32 v) (c' := .float .f32 t) RZ4.out
      go_wp2_with fail
      refine bodyPost_ret (v := .tuple #[vecV u v t, .bool (vfin (mu (areaX P n cl) cu) (mu (areaY P n cl) cu) (mu (areaZ P n cl) cu))]) (by simp [results, Try.results43, go_sem, t0, t1, t2]) rfl ?_
      exact ⟨u, v, t, rfl, HU.out.1, HU.out.2.1, HU.out.2.2, belowSet (belowSet (belowSet B4.out (Nat.le_succ _)) (Nat.le_succ _)) (Nat.le_succ _)⟩
end Go.Proofs.Ytfcniebfoboogaa
