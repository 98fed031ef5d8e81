/- The middle of a wire. Conditions: as each says. -/
import Derived.Test.YtfcniebfoboogaaWire
import Derived.Test.YtfcniebfoboogaaFlag
namespace Go.Proofs.Ytfcniebfoboogaa
open Go.RowKit
attribute [local go_sem ↓] Go.wp_at_zero Go.wp_at_succ

/-- The sum of one coordinate. -/
def sumC (P : Nat → Nat) (c : Nat) : Nat → Nat
  | 0 => 0
  | k + 1 => ad (sumC P c k) (P (k * 3 + c))
def invN (n : Nat) : Nat := qu 1065353216 (floatOfInt .f32 (n : Int))
theorem invN_num : ∀ n, n < 49 → 2 ≤ n → nanB .f32 (invN n) = false := by decide +kernel
theorem fop_quiet {op : BinOp} {k : FloatKind} {x y : Nat} (h : nanB k (fop op k x y) = false) : (∀ w, fval op k x y w = fop op k x y) ∧ fcnt op k x y = 0 := by
  have : ∃ r, floatBits op k x y = some r := by
    cases e : floatBits op k x y with
    | some r => exact ⟨r, rfl⟩
    | none => unfold fop at h; rw [e] at h; rw [show (none : Option Nat).getD (cnan k) = cnan k from rfl, cnan_nan] at h; cases h
  obtain ⟨r, hr⟩ := this
  exact ⟨fun w => by unfold fval fop; rw [hr]; rfl, by unfold fcnt; rw [hr]; rfl⟩
def midC (P : Nat → Nat) (n c : Nat) : Nat := mu (sumC P c n) (invN n)
/-- A block of three cells that may be written. -/
def Row3 (g : Nat) (a b c : Value) (w : World) : Prop := w.cell? ⟨g, 0, none⟩ = some a ∧ w.cell? ⟨g, 1, none⟩ = some b ∧ w.cell? ⟨g, 2, none⟩ = some c ∧ w.frozen? ⟨g, 0, none⟩ = false ∧ w.frozen? ⟨g, 1, none⟩ = false ∧ w.frozen? ⟨g, 2, none⟩ = false
theorem Row3.keep {g : Nat} {a b c : Value} {w w' : World} (hb : Below w.heap.size w w') (h : Row3 g a b c w) : Row3 g a b c w' := carryCells h hb
theorem frozenSet {w : World} {a p : Addr} {v : Value} (h : w.frozen? p = false) : (w.setCell a v).frozen? p = false := by simpa using h
theorem Row3.set {g : Nat} {a b c a' b' c' : Value} {w : World} (h : Row3 g a b c w) : Row3 g a' b' c' (((w.setCell ⟨g, 0, none⟩ a').setCell ⟨g, 1, none⟩ b').setCell ⟨g, 2, none⟩ c') := by
  obtain ⟨h0, h1, h2, f0, f1, f2⟩ := h
  obtain ⟨t0, t1, t2⟩ := setThree (a := a') (b := b') (c := c') h0 h1 h2
  exact ⟨t0, t1, t2, frozenSet (frozenSet (frozenSet f0)), frozenSet (frozenSet (frozenSet f1)), frozenSet (frozenSet (frozenSet f2))⟩
theorem Row3.other {g h : Nat} {a b c a' b' c' : Value} {w : World} (hr : Row3 g a b c w) (hne : g ≠ h) : Row3 g a b c (((w.setCell ⟨h, 0, none⟩ a').setCell ⟨h, 1, none⟩ b').setCell ⟨h, 2, none⟩ c') := by
  obtain ⟨h0, h1, h2, f0, f1, f2⟩ := hr
  exact ⟨cellAt (cellAt (cellAt h0 hne) hne) hne, cellAt (cellAt (cellAt h1 hne) hne) hne, cellAt (cellAt (cellAt h2 hne) hne) hne, frozenSet (frozenSet (frozenSet f0)), frozenSet (frozenSet (frozenSet f1)), frozenSet (frozenSet (frozenSet f2))⟩
theorem Row3.new (w : World) (a b c : Value) (t : TypeId) : Row3 w.heap.size a b c (w.alloc (.cells #[a, b, c] t)) := newCells (t := t) (Below.refl _ _)
/-- A variable that holds three numbers, the same as X, Y, Z. -/
def Var3 (g X Y Z : Nat) (w : World) : Prop := ∃ x y z, Row3 g (.float .f32 x) (.float .f32 y) (.float .f32 z) w ∧ Same .f32 x X ∧ Same .f32 y Y ∧ Same .f32 z Z
theorem Var3.keep {g X Y Z : Nat} {w w' : World} (hb : Below w.heap.size w w') (h : Var3 g X Y Z w) : Var3 g X Y Z w' := by
  obtain ⟨x, y, z, h, s⟩ := h
  exact ⟨x, y, z, h.keep hb, s⟩
set_option maxRecDepth 100000 in
set_option maxHeartbeats 2000000 in
theorem spec_middle (p b o n c : Nat) (P : Nat → Nat) (h2 : 2 ≤ n) (h48 : n ≤ 48) (w : World) (c0 : w.cell? ⟨p, 0, none⟩ = some (.slice (some ⟨b, o, none⟩) n c)) (hv : VS w b o n P) :
    Calls Try.prog 73 #[.pointer (some ⟨p, 0, none⟩)] w (VecIs (midC P n 0) (midC P n 1) (midC P n 2) w) := by
  have HV := Lib.hid hv
  have hp : p < w.heap.size := World.block_lt_of_cell? _ _ c0
  have hbs : b < w.heap.size := World.block_lt_of_cell? _ _ (hv.three (k := 0) (by omega)).1
  obtain ⟨q1, q2⟩ := fop_quiet (invN_num n (by omega) h2)
  have Q1 := Lib.hid q1
  have Q2 := Lib.hid q2
  clear hv q1 q2
  go_enter Try.func73, Try.ntmps73
  go_wp2_with fail
  go_loopw [4] (fun i wr => ∃ k : Nat, k ≤ n ∧ i = .int .i64 k ∧ Var3 (w.heap.size + 1) (sumC P 0 k) (sumC P 1 k) (sumC P 2 k) wr ∧ Row3 w.heap.size (.float .f32 0) (.float .f32 0) (.float .f32 0) wr ∧ w.heap.size + 1 < wr.heap.size ∧ Below w.heap.size w wr) (fun i _ => n - (intOf i).toNat)
  case atStart =>
    have e := Row3.new (w.alloc (.cells #[.float .f32 0, .float .f32 0, .float .f32 0] 49)) (.float .f32 0) (.float .f32 0) (.float .f32 0) 49
    rw [World.size_alloc] at e
    exact ⟨0, Nat.zero_le _, rfl, ⟨0, 0, 0, e, Same.refl _ _, Same.refl _ _, Same.refl _ _⟩, Row3.keep (belowAlloc (Below.refl _ _) _) (Row3.new _ _ _ _ _), by simp, belowAlloc (belowAlloc (Below.refl _ _) _) _⟩
  case round =>
    obtain ⟨k, hk, rfl, ⟨s0, s1, s2, ra, hs0, hs1, hs2⟩, rz, hsz, hbel⟩ := hrel
    have d0 := hbel.cell (p := ⟨p, 0, none⟩) hp
    rw [c0] at d0
    have hvw := Lib.hid (VS.below hbel hbs HV.out)
    have HB := Lib.hid hbel
    have hpw : p < wr.heap.size := Nat.lt_of_lt_of_le hp hbel.size
    have RA := Lib.hid ra
    have RZ := Lib.hid rz
    obtain ⟨a0, a1, a2, _⟩ := ra
    clear hbel rz
    by_cases hlt : k < n
    · obtain ⟨x1, x2, x3⟩ := hvw.out.three hlt
      have p0 : (0 : Int) ≤ (k : Int) := by omega
      have p1 : (k : Int) < (n : Int) := by omega
      go_wp2_with fail
      go_region_with ((go_at_call 85; refine (spec_add _ _ _ _ _ _ _).mono ?_; rintro e w' ⟨u, v, t, rfl, hu, hv2, ht, hb⟩; obtain ⟨g0, g1, g2, e0, e1, e2⟩ := Row3.keep (w := wr.drew) hb RA.out; have hbH := Lib.hid hb; clear hb))
      all_goals
        have hb' := hbH.out
        have gz := Row3.keep (w := wr.drew) hb' RZ.out
        have ga := Row3.keep (w := wr.drew) hb' RA.out
        have hsz' : w.heap.size + 1 < (((w'.setCell ⟨w.heap.size + 1, 0, none⟩ (.float .f32 u)).setCell ⟨w.heap.size + 1, 1, none⟩ (.float .f32 v)).setCell ⟨w.heap.size + 1, 2, none⟩ (.float .f32 t)).heap.size := sizeSet (sizeSet (sizeSet (Nat.lt_of_lt_of_le hsz hb'.size)))
        have hbn := belowSet (j := 2) (u := .float .f32 t) (belowSet (j := 1) (u := .float .f32 v) (belowSet (j := 0) (u := .float .f32 u) (belowNext HB.out.drew hb') (Nat.le_succ w.heap.size)) (Nat.le_succ w.heap.size)) (Nat.le_succ w.heap.size)
        have HX := Lib.hid (And.intro (Row3.set (a' := .float .f32 u) (b' := .float .f32 v) (c' := .float .f32 t) ga) (And.intro (Row3.other (h := w.heap.size + 1) (a' := .float .f32 u) (b' := .float .f32 v) (c' := .float .f32 t) gz (by omega)) (And.intro hsz' hbn)))
        clear hb' gz ga hsz' hbn g0 g1 g2 e0 e1 e2
        go_wp2_with fail
        go_roundw
        case rel => exact ⟨k + 1, by omega, by go_num, ⟨u, v, t, HX.out.1, hu.step hs0 (Same.refl _ _), hv2.step hs1 (Same.refl _ _), ht.step hs2 (Same.refl _ _)⟩, HX.out.2.1, HX.out.2.2.1, HX.out.2.2.2⟩
        case measure => simp [intOf]; omega
    · obtain rfl : k = n := by omega
      have hq1 := Q1.out
      have hq2 := Q2.out
      go_wp2_with fail
      go_region_with ((go_at_call 84; refine (spec_scale _ _ _ _ _).mono ?_; rintro e w' ⟨u, v, t, rfl, hu, hv2, ht, hb⟩; obtain ⟨g0, g1, g2, e0, e1, e2⟩ := Row3.keep (w := wr.drew) hb RZ.out; have hbH := Lib.hid hb; clear hb))
      all_goals
        have hb' := hbH.out
        have gz := Row3.keep (w := wr.drew) hb' RZ.out
        obtain ⟨t0, t1, t2, _⟩ := Row3.set (a' := .float .f32 u) (b' := .float .f32 v) (c' := .float .f32 t) gz
        have hbn := belowSet (j := 2) (u := .float .f32 t) (belowSet (j := 1) (u := .float .f32 v) (belowSet (j := 0) (u := .float .f32 u) (belowNext HB.out.drew hb') (Nat.le_refl w.heap.size)) (Nat.le_refl w.heap.size)) (Nat.le_refl w.heap.size)
        have HX := Lib.hid hbn
        clear hb' gz hbn hbH RZ RA HB
        go_wp2_with fail
        refine bodyPost_ret (v := vecV u v t) (by simp [results, Try.results73, go_sem, t0, t1, t2]) rfl ?_
        exact ⟨_, _, _, rfl, hu.step hs0 (Same.refl _ _), hv2.step hs1 (Same.refl _ _), ht.step hs2 (Same.refl _ _), HX.out⟩

def midB (P : Nat → Nat) (n cu : Nat) : Bool := validB P n cu && vfin (midC P n 0) (midC P n 1) (midC P n 2)
theorem valid_bounds {P : Nat → Nat} {n cu : Nat} (h : validB P n cu = true) : 2 ≤ n ∧ n ≤ 48 := by
  unfold validB at h
  rw [Bool.and_eq_true, Bool.and_eq_true, decide_eq_true_eq, decide_eq_true_eq] at h
  exact ⟨h.1, h.2.1⟩
set_option maxHeartbeats 1000000 in
theorem spec_MiddleOf (b o n c cu : Nat) (cl : Bool) (P : Nat → Nat) (hn : n ≤ 9223372036854775807) (w : World) (hv : VS w b o n P) :
    Calls Try.prog 33 #[wireV (.slice (some ⟨b, o, none⟩) n c) cl cu] w (FlagVec (midB P n cu) (midC P n 0) (midC P n 1) (midC P n 2) w) := by
  have HV := Lib.hid hv
  clear hv
  cases hval : validB P n cu
  · have e : midB P n cu = false := by unfold midB; rw [hval]; rfl
    rw [e]
    clear e
    go_enter Try.func33, Try.ntmps33
    go_wp2_with fail
    refine (spec_is _ b o n c cu P hn _ ?_ ?_ ?_).mono ?_
    · simp
    · simp
    · exact VS.keep (belowAlloc (belowAlloc (Below.refl _ _) _) _) HV.out
    rw [hval]
    rintro e w1 ⟨rfl, bel⟩
    have rz : Row3 (w.heap.size + 1) (.float .f32 0) (.float .f32 0) (.float .f32 0) w1 := by
      have e := Row3.new (w.alloc (.cells #[.slice (some ⟨b, o, none⟩) n c, .bool cl, .float .f32 cu] 30)) (.float .f32 0) (.float .f32 0) (.float .f32 0) 49
      rw [World.size_alloc] at e
      exact Row3.keep bel e
    obtain ⟨z0, z1, z2, zf0, zf1, zf2⟩ := rz
    obtain ⟨t0, t1, t2, _⟩ := Row3.set (a' := .float .f32 0) (b' := .float .f32 0) (c' := .float .f32 0) (⟨z0, z1, z2, zf0, zf1, zf2⟩ : Row3 (w.heap.size + 1) (.float .f32 0) (.float .f32 0) (.float .f32 0) w1)
    have B1 := Lib.hid (belowNext (belowAlloc (belowAlloc (Below.refl w.heap.size w) _) _) bel)
    clear bel
    go_wp2_with fail
    refine bodyPost_ret (v := .tuple #[vecV 0 0 0, .bool false]) (by simp [results, Try.results33, go_sem, t0, t1, t2]) rfl ?_
    exact ⟨0, 0, 0, rfl, Same.refl _ _, Same.refl _ _, Same.refl _ _, belowSet (belowSet (belowSet B1.out (Nat.le_succ _)) (Nat.le_succ _)) (Nat.le_succ _)⟩
  · obtain ⟨h2, h48⟩ := valid_bounds hval
    have e : midB P n cu = vfin (midC P n 0) (midC P n 1) (midC P n 2) := by unfold midB; rw [hval]; rfl
    rw [e]
    clear e
    go_enter Try.func33, Try.ntmps33
    go_wp2_with fail
    refine (spec_is _ b o n c cu P hn _ ?_ ?_ ?_).mono ?_
    · simp
    · simp
    · exact VS.keep (belowAlloc (belowAlloc (Below.refl _ _) _) _) HV.out
    rw [hval]
    rintro e w1 ⟨rfl, bel⟩
    have rz : Row3 (w.heap.size + 1) (.float .f32 0) (.float .f32 0) (.float .f32 0) w1 := by
      have e := Row3.new (w.alloc (.cells #[.slice (some ⟨b, o, none⟩) n c, .bool cl, .float .f32 cu] 30)) (.float .f32 0) (.float .f32 0) (.float .f32 0) 49
      rw [World.size_alloc] at e
      exact Row3.keep bel e
    have k0 : w1.cell? ⟨w.heap.size, 0, none⟩ = some (.slice (some ⟨b, o, none⟩) n c) := cellKeep bel (cellAlloc (by rw [World.cell?_alloc_new]; rfl) _)
    have V1 := Lib.hid (VS.keep bel (VS.keep (belowAlloc (belowAlloc (Below.refl _ _) _) _) HV.out))
    have B1 := Lib.hid (belowNext (belowAlloc (belowAlloc (Below.refl w.heap.size w) _) _) bel)
    have RZ := Lib.hid rz
    clear bel rz
    go_wp2_with fail
    refine (spec_middle _ b o n c P h2 h48 _ k0 V1.out).mono ?_
    rintro e w2 ⟨x, y, z, rfl, hx, hy, hz, bel⟩
    have RZ2 := Lib.hid (Row3.keep bel RZ.out)
    have B2 := Lib.hid (belowNext B1.out bel)
    clear bel k0 V1 RZ B1
    go_wp2_with fail
    refine (spec_vector x y z _ _ _ hx hy hz _).mono ?_
    rintro e w3 ⟨u, v, t, rfl, hu, hv, ht, bel⟩
    have rz3 := Row3.keep bel RZ2.out
    have B3 := Lib.hid (belowNext B2.out bel)
    obtain ⟨z0, z1, z2, zf0, zf1, zf2⟩ := rz3
    obtain ⟨t0, t1, t2, _⟩ := Row3.set (a' := .float .f32 u) (b' := .float .f32 v) (c' := .float .f32 t) (⟨z0, z1, z2, zf0, zf1, zf2⟩ : Row3 (w.heap.size + 1) (.float .f32 0) (.float .f32 0) (.float .f32 0) w3)
    have HU := Lib.hid (And.intro hu (And.intro hv ht))
    clear bel hu hv ht RZ2 B2
    go_wp2_with fail
    refine bodyPost_ret (v := .tuple #[vecV u v t, .bool (vfin (midC P n 0) (midC P n 1) (midC P n 2))]) (by simp [results, Try.results33, go_sem, t0, t1, t2]) rfl ?_
    exact ⟨u, v, t, rfl, HU.out.1, HU.out.2.1, HU.out.2.2, belowSet (belowSet (belowSet B3.out (Nat.le_succ _)) (Nat.le_succ _)) (Nat.le_succ _)⟩
set_option maxHeartbeats 2000000 in
theorem impl_MiddleOf (b o n c cu : Nat) (cl : Bool) (P : Nat → Nat) (hn : n ≤ 9223372036854775807) (w : World) (hv : VS w b o n P) :
    Calls Try.prog 34 #[wireV (.slice (some ⟨b, o, none⟩) n c) cl cu] w (FlagVec (midB P n cu) (midC P n 0) (midC P n 1) (midC P n 2) w) := by
  have HV := Lib.hid hv
  clear hv
  cases hval : validB P n cu
  · have e : midB P n cu = false := by unfold midB; rw [hval]; rfl
    rw [e]
    clear e
    go_enter Try.func34, Try.ntmps34
    go_wp2_with fail
    refine (impl_ValidWire b o n c cu cl P hn _ (VS.keep (belowAlloc (belowAlloc (Below.refl _ _) _) _) HV.out)).mono ?_
    rw [hval]
    rintro e w1 ⟨rfl, bel⟩
    have rz : Row3 (w.heap.size + 1) (.float .f32 0) (.float .f32 0) (.float .f32 0) w1 := by
      have e := Row3.new (w.alloc (.cells #[.slice (some ⟨b, o, none⟩) n c, .bool cl, .float .f32 cu] 30)) (.float .f32 0) (.float .f32 0) (.float .f32 0) 49
      rw [World.size_alloc] at e
      exact Row3.keep bel e
    obtain ⟨z0, z1, z2, zf0, zf1, zf2⟩ := rz
    obtain ⟨t0, t1, t2, _⟩ := Row3.set (a' := .float .f32 0) (b' := .float .f32 0) (c' := .float .f32 0) (⟨z0, z1, z2, zf0, zf1, zf2⟩ : Row3 (w.heap.size + 1) (.float .f32 0) (.float .f32 0) (.float .f32 0) w1)
    have B1 := Lib.hid (belowNext (belowAlloc (belowAlloc (Below.refl w.heap.size w) _) _) bel)
    clear bel
    go_wp2_with fail
    refine bodyPost_ret (v := .tuple #[vecV 0 0 0, .bool false]) (by simp [results, Try.results34, go_sem, t0, t1, t2]) rfl ?_
    exact ⟨0, 0, 0, rfl, Same.refl _ _, Same.refl _ _, Same.refl _ _, belowSet (belowSet (belowSet B1.out (Nat.le_succ _)) (Nat.le_succ _)) (Nat.le_succ _)⟩
  · obtain ⟨h2, h48⟩ := valid_bounds hval
    have e : midB P n cu = vfin (midC P n 0) (midC P n 1) (midC P n 2) := by unfold midB; rw [hval]; rfl
    rw [e]
    clear e
    obtain ⟨q1, q2⟩ := fop_quiet (invN_num n (by omega) h2)
    have Q1 := Lib.hid q1
    have Q2 := Lib.hid q2
    clear q1 q2
    go_enter Try.func34, Try.ntmps34
    go_wp2_with fail
    refine (impl_ValidWire b o n c cu cl P hn _ (VS.keep (belowAlloc (belowAlloc (Below.refl _ _) _) _) HV.out)).mono ?_
    rw [hval]
    rintro e w1 ⟨rfl, bel⟩
    have rz : Row3 (w.heap.size + 1) (.float .f32 0) (.float .f32 0) (.float .f32 0) w1 := by
      have e := Row3.new (w.alloc (.cells #[.slice (some ⟨b, o, none⟩) n c, .bool cl, .float .f32 cu] 30)) (.float .f32 0) (.float .f32 0) (.float .f32 0) 49
      rw [World.size_alloc] at e
      exact Row3.keep bel e
    have k0 : w1.cell? ⟨w.heap.size, 0, none⟩ = some (.slice (some ⟨b, o, none⟩) n c) := cellKeep bel (cellAlloc (by rw [World.cell?_alloc_new]; rfl) _)
    have V1 := Lib.hid (VS.keep bel (VS.keep (belowAlloc (belowAlloc (Below.refl _ _) _) _) HV.out))
    have B1 := Lib.hid (belowNext (belowAlloc (belowAlloc (Below.refl w.heap.size w) _) _) bel)
    have RZ := Lib.hid rz
    have lz : w.heap.size + 1 < w1.heap.size := World.block_lt_of_cell? _ _ rz.1
    have lz0 : w.heap.size < w1.heap.size := Nat.lt_trans (Nat.lt_succ_self _) lz
    clear bel rz
    go_wp2_with fail
    go_loopw [6, 15] (fun _ i wr => ∃ k : Nat, k ≤ n ∧ i = .int .i64 k ∧ Var3 w1.heap.size (sumC P 0 k) (sumC P 1 k) (sumC P 2 k) wr ∧ Below w1.heap.size w1 wr) (fun _ i _ => n - (intOf i).toNat)
    case atStart => exact ⟨0, Nat.zero_le _, rfl, ⟨0, 0, 0, Row3.new _ _ _ _ _, Same.refl _ _, Same.refl _ _, Same.refl _ _⟩, belowAlloc (Below.refl _ _) _⟩
    case round =>
      obtain ⟨k, hk, rfl, ⟨s0, s1, s2, ra, hs0, hs1, hs2⟩, hbel⟩ := hrel
      have hvw := Lib.hid (VS.keep hbel V1.out)
      have HB := Lib.hid hbel
      have kk := cellKeep hbel k0
      have lg : w1.heap.size < wr.heap.size := World.block_lt_of_cell? _ _ ra.1
      have lw : w.heap.size < wr.heap.size := Nat.lt_trans (Nat.lt_trans (Nat.lt_succ_self _) lz) lg
      have RA := Lib.hid ra
      obtain ⟨a0, a1, a2, af0, af1, af2⟩ := ra
      clear hbel
      by_cases hlt : k < n
      · obtain ⟨x1, x2, x3⟩ := hvw.out.three hlt
        go_wp2_with fail
        refine (impl_add _ _ _ _ _ _ _).mono ?_
        rintro e w' ⟨u, v, t, rfl, hu, hv2, ht, hb⟩
        have ga := Row3.keep hb (Row3.keep (belowAlloc (Below.refl _ _) _) RA.out)
        obtain ⟨g0, g1, g2, e0, e1, e2⟩ := ga
        have hbn := belowSet (j := 2) (u := .float .f32 t) (belowSet (j := 1) (u := .float .f32 v) (belowSet (j := 0) (u := .float .f32 u) (belowNext (belowAlloc HB.out _) hb) (Nat.le_refl w1.heap.size)) (Nat.le_refl w1.heap.size)) (Nat.le_refl w1.heap.size)
        have HX := Lib.hid (And.intro (Row3.set (a' := .float .f32 u) (b' := .float .f32 v) (c' := .float .f32 t) (⟨g0, g1, g2, e0, e1, e2⟩ : Row3 w1.heap.size _ _ _ w')) hbn)
        clear hb hbn
        go_wp2_with fail
        go_roundw
        case rel => exact ⟨k + 1, by omega, by go_num, ⟨u, v, t, HX.out.1, hu.step hs0 (Same.refl _ _), hv2.step hs1 (Same.refl _ _), ht.step hs2 (Same.refl _ _)⟩, HX.out.2⟩
        case measure => simp [intOf]; omega
      · obtain rfl : k = n := by omega
        have hq1 := Q1.out
        have hq2 := Q2.out
        go_wp2_with fail
        refine (impl_scale _ _ _ _ _).mono ?_
        rintro e w2 ⟨x, y, z, rfl, hx, hy, hz, bel⟩
        have rz2 := Row3.keep (belowNext HB.out bel) RZ.out
        have B2 := Lib.hid (belowNext B1.out (belowNext HB.out bel))
        have RZ2 := Lib.hid rz2
        have HS := Lib.hid (And.intro (hx.step hs0 (Same.refl _ _)) (And.intro (hy.step hs1 (Same.refl _ _)) (hz.step hs2 (Same.refl _ _))))
        clear bel rz2 hx hy hz hq1 hq2
        go_wp2_with fail
        refine (impl_ifVector x y z (midC P k 0) (midC P k 1) (midC P k 2) HS.out.1 HS.out.2.1 HS.out.2.2 _).mono ?_
        rintro e w3 ⟨u, v, t, rfl, hu, hv, ht, bel⟩
        have rz3 := Row3.keep bel RZ2.out
        have B3 := Lib.hid (belowNext B2.out bel)
        obtain ⟨z0, z1, z2, zf0, zf1, zf2⟩ := rz3
        obtain ⟨t0, t1, t2, _⟩ := Row3.set (a' := .float .f32 u) (b' := .float .f32 v) (c' := .float .f32 t) (⟨z0, z1, z2, zf0, zf1, zf2⟩ : Row3 (w.heap.size + 1) (.float .f32 0) (.float .f32 0) (.float .f32 0) w3)
        have HU := Lib.hid (And.intro hu (And.intro hv ht))
        clear bel hu hv ht RZ2 B2
        go_wp2_with fail
        refine bodyPost_ret (v := .tuple #[vecV u v t, .bool (vfin (midC P k 0) (midC P k 1) (midC P k 2))]) (by simp [results, Try.results34, go_sem, t0, t1, t2]) rfl ?_
        exact ⟨u, v, t, rfl, HU.out.1, HU.out.2.1, HU.out.2.2, belowSet (belowSet (belowSet B3.out (Nat.le_succ _)) (Nat.le_succ _)) (Nat.le_succ _)⟩
end Go.Proofs.Ytfcniebfoboogaa
