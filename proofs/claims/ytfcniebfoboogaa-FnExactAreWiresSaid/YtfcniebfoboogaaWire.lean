/- Wires: the laws' copies and comparisons, the points' cells. Conditions: as each says. -/
import Derived.Test.YtfcniebfoboogaaHeld
import Derived.Test.YtfcniebfoboogaaOpen
import Derived.LoopTactic
import Derived.Deep.OwnRows
import Derived.Deep.Slices
import Derived.Deep.RegionWith
import Derived.Deep.RegionHeld3
import Derived.Deep.DrawnRows
namespace Go.Proofs.Ytfcniebfoboogaa
open Go.RowKit
attribute [local go_sem ↓] Go.wp_at_zero Go.wp_at_succ

/-- The numbers of n vectors that lie in a block from an offset on. -/
def VS (w : World) (b o n : Nat) (P : Nat → Nat) : Prop := ∀ i, i < n * 3 → w.cell? ⟨b, o + i, none⟩ = some (.float .f32 (P i))
abbrev wireV (s : Value) (cl : Bool) (cu : Nat) : Value := .agg #[s, .bool cl, .float .f32 cu]
theorem VS.keep {w w' : World} {b o n : Nat} {P : Nat → Nat} (hbel : Below w.heap.size w w') (h : VS w b o n P) : VS w' b o n P := fun i hi => cellKeep hbel (h i hi)
theorem infoV : (Try.prog.info? 49).map (fun i => (i.zero, i.size, i.bytes)) = some (some (vecV 0 0 0), 3, 12) := by kernel_rfl
theorem VS.row {w : World} {b n : Nat} {E : TypeId} {P : Nat → Nat} (h : w.rowIs b E (n * 3) (fun i => .float .f32 (P i))) : VS w b 0 n P := fun i hi => by rw [Nat.zero_add]; exact h.cell hi
theorem VS.below {w w' : World} {b o n : Nat} {P : Nat → Nat} (hbel : Below w.heap.size w w') (hb : b < w.heap.size) (h : VS w b o n P) : VS w' b o n P := fun i hi => (hbel.cell (p := ⟨b, o + i, none⟩) hb).trans (h i hi)
theorem VS.three {w : World} {b o n : Nat} {P : Nat → Nat} (h : VS w b o n P) {k : Nat} (hk : k < n) : w.cell? ⟨b, o + k * 3, none⟩ = some (.float .f32 (P (k * 3))) ∧ w.cell? ⟨b, o + k * 3 + 1, none⟩ = some (.float .f32 (P (k * 3 + 1))) ∧ w.cell? ⟨b, o + k * 3 + 2, none⟩ = some (.float .f32 (P (k * 3 + 2))) :=
  ⟨h _ (by omega), h (k * 3 + 1) (by omega), h (k * 3 + 2) (by omega)⟩
theorem madeV (n : Nat) (w : World) : (w.alloc (.cells (madeCells #[.float .f32 0, .float .f32 0, .float .f32 0] (n * 3)) 49)).rowIs w.heap.size 49 (n * 3) (fun _ => .float .f32 0) := by
  refine ⟨_, Go.Deep.blk_alloc_new _ _, size_madeCells _ _, fun i hi => ?_⟩
  simp only [madeCells, Array.getElem?_map, Array.getElem?_range, hi, if_true, Option.map_some]
  have : i % 3 = 0 ∨ i % 3 = 1 ∨ i % 3 = 2 := by omega
  rcases this with e | e | e <;> simp [e]
theorem make_V (n : Nat) (hn : n ≤ 1048576) (w : World) : (Instr.makeSlice 28 (.int .i64 (n : Int)) (.int .i64 (n : Int))).run Try.prog w = .ok (.slice (some ⟨w.heap.size, 0, none⟩) n n) (w.alloc (.cells (madeCells #[.float .f32 0, .float .f32 0, .float .f32 0] (n * 3)) 49)) := by
  obtain ⟨i, hi, hzz⟩ := Option.map_eq_some_iff.1 infoV
  simp only [Prod.mk.injEq] at hzz
  obtain ⟨hz, hs, hb⟩ := hzz
  have hr := run_make (P := Try.prog) w 28 49 i (vecV 0 0 0) Try.underlying28 hi hz .i64 .i64 n n (by omega) (by omega) (by rw [hb]; omega) (by omega)
  simp only [Int.toNat_natCast, hs] at hr
  exact hr
theorem rowThree {w : World} {b : Nat} {E : TypeId} {n k : Nat} {P : Nat → Nat} (h : w.rowIs b E (n * 3) (fun j => if j < k * 3 then .float .f32 (P j) else .float .f32 0)) :
    (((w.setCell ⟨b, k * 3, none⟩ (.float .f32 (P (k * 3)))).setCell ⟨b, k * 3 + 1, none⟩ (.float .f32 (P (k * 3 + 1)))).setCell ⟨b, k * 3 + 2, none⟩ (.float .f32 (P (k * 3 + 2)))).rowIs b E (n * 3) (fun j => if j < (k + 1) * 3 then .float .f32 (P j) else .float .f32 0) := by
  refine (((h.set (k * 3) _).set (k * 3 + 1) _).set (k * 3 + 2) _).congr (fun j _ => ?_)
  by_cases e2 : j = k * 3 + 2
  · subst e2; rw [if_pos rfl, if_pos (by omega)]
  · by_cases e1 : j = k * 3 + 1
    · subst e1; rw [if_neg (by omega), if_pos rfl, if_pos (by omega)]
    · by_cases e0 : j = k * 3
      · subst e0; rw [if_neg (by omega), if_neg (by omega), if_pos rfl, if_pos (by omega)]
      · rw [if_neg e2, if_neg e1, if_neg e0]
        by_cases l : j < k * 3
        · rw [if_pos l, if_pos (by omega)]
        · rw [if_neg l, if_neg (by omega)]

set_option maxRecDepth 100000 in
theorem laws_toVS (b o n c : Nat) (P : Nat → Nat) (hn : n ≤ 1048576) (w : World) (hc : VS w b o n P) (hb : b < w.heap.size) :
    Calls Try.prog 51 #[.slice (some ⟨b, o, none⟩) n c] w fun e w' => e = .returned (.slice (some ⟨w.heap.size, 0, none⟩) n n) ∧ w'.rowIs w.heap.size 49 (n * 3) (fun i => .float .f32 (P i)) ∧ Below w.heap.size w w' := by
  have hmk := make_V n hn
  go_enter Try.func51, Try.ntmps51
  go_wp2_with fail
  clear hmk
  go_loopw [4] (fun i wr => ∃ k : Nat, k ≤ n ∧ i = .int .i64 k ∧ wr.rowIs w.heap.size 49 (n * 3) (fun j => if j < k * 3 then .float .f32 (P j) else .float .f32 0) ∧ Below w.heap.size w wr) (fun i _ => n - (intOf i).toNat)
  case atStart => exact ⟨0, Nat.zero_le _, rfl, (madeV n w).congr (fun i _ => by simp), (Below.refl _ _).alloc (Nat.le_refl _) _⟩
  case round =>
    obtain ⟨k, hk, rfl, hrow, hbel⟩ := hrel
    by_cases hlt : k < n
    · obtain ⟨h1, h2, h3⟩ := (VS.below hbel hb hc).three hlt
      have H := Lib.hid (And.intro hrow hbel)
      clear hrow hbel
      go_wp2_with fail
      refine (laws_toVector _ _ _ _).mono ?_
      rintro e w1 ⟨rfl, hb1⟩
      obtain ⟨hrow, hbel⟩ := H.out
      have hrow1 := hrow.of_block (hb1.block _ hrow.lt)
      have hbel1 := belowNext hbel hb1
      have g1 := hrow1.cell (i := k * 3) (by omega)
      have g2 := hrow1.cell (i := k * 3 + 1) (by omega)
      have g3 := hrow1.cell (i := k * 3 + 2) (by omega)
      have f1 := hrow1.frozen (k * 3)
      have f2 := hrow1.frozen (k * 3 + 1)
      have f3 := hrow1.frozen (k * 3 + 2)
      have H1 := Lib.hid (And.intro hrow1 hbel1)
      clear hrow hbel hrow1 hbel1 hb1 h1 h2 h3
      go_wp2_with fail
      go_roundw
      case rel =>
        obtain ⟨hrow, hbel⟩ := H1.out
        exact ⟨k + 1, by omega, by go_num, rowThree hrow, ((hbel.setCell (Nat.le_refl _) _).setCell (Nat.le_refl _) _).setCell (Nat.le_refl _) _⟩
      case measure => simp [intOf]; omega
    · obtain rfl : k = n := by omega
      have H := Lib.hid (And.intro hrow hbel)
      clear hrow hbel
      go_wp2_with fail
      go_ret
      obtain ⟨hrow, hbel⟩ := H.out
      exact ⟨rfl, hrow.congr (fun j hj => by rw [if_pos hj]), hbel⟩
theorem laws_toVS_nil (a : Option Addr) (c : Nat) (w : World) :
    Calls Try.prog 51 #[.slice a 0 c] w fun e w' => e = .returned (.slice (some ⟨w.heap.size, 0, none⟩) 0 0) ∧ w'.rowIs w.heap.size 49 (0 * 3) (fun _ => .float .f32 0) ∧ Below w.heap.size w w' := by
  have hmk : ∀ w : World, (Instr.makeSlice 28 (.int .i64 0) (.int .i64 0)).run Try.prog w = .ok (.slice (some ⟨w.heap.size, 0, none⟩) 0 0) (w.alloc (.cells (madeCells #[.float .f32 0, .float .f32 0, .float .f32 0] (0 * 3)) 49)) := make_V 0 (by omega)
  go_enter Try.func51, Try.ntmps51
  go_wp2_with fail
  clear hmk
  go_loopw [4] (fun i wr => i = .int .i64 0 ∧ wr.rowIs w.heap.size 49 (0 * 3) (fun _ => .float .f32 0) ∧ Below w.heap.size w wr) (fun _ _ => 0)
  case atStart => exact ⟨rfl, madeV 0 w, (Below.refl _ _).alloc (Nat.le_refl _) _⟩
  case round =>
    obtain ⟨rfl, hrow, hbel⟩ := hrel
    have H := Lib.hid (And.intro hrow hbel)
    clear hrow hbel
    go_wp2_with fail
    go_ret
    obtain ⟨hrow, hbel⟩ := H.out
    exact ⟨rfl, hrow, hbel⟩
set_option maxRecDepth 100000 in
/-- Two lists of the same vectors. -/
theorem laws_eqVS (b1 o1 c1 b2 o2 c2 n : Nat) (P Q R : Nat → Nat) (hn : n ≤ 1048576) (w : World) (h1 : VS w b1 o1 n P) (h2 : VS w b2 o2 n Q) (hb1 : b1 < w.heap.size) (hb2 : b2 < w.heap.size) (hs : ∀ i, i < n * 3 → Same .f32 (P i) (R i) ∧ Same .f32 (Q i) (R i)) :
    Calls Try.prog 54 #[.slice (some ⟨b1, o1, none⟩) n c1, .slice (some ⟨b2, o2, none⟩) n c2] w fun e w' => e = .returned (.bool true) ∧ Below w.heap.size w w' := by
  have nn : ((n : Int) != (n : Int)) = false := by simp
  go_enter Try.func54, Try.ntmps54
  go_wp2_with fail
  clear nn
  go_loopw [5] (fun i wr => ∃ k : Nat, k ≤ n ∧ i = .int .i64 k ∧ Below w.heap.size w wr) (fun i _ => n - (intOf i).toNat)
  case atStart => exact ⟨0, Nat.zero_le _, rfl, Below.refl _ _⟩
  case round =>
    obtain ⟨k, hk, rfl, hbel⟩ := hrel
    by_cases hlt : k < n
    · obtain ⟨x1, y1, z1⟩ := (VS.below hbel hb1 h1).three hlt
      obtain ⟨x2, y2, z2⟩ := (VS.below hbel hb2 h2).three hlt
      obtain ⟨s1, t1⟩ := hs (k * 3) (by omega)
      obtain ⟨s2, t2⟩ := hs (k * 3 + 1) (by omega)
      obtain ⟨s3, t3⟩ := hs (k * 3 + 2) (by omega)
      have p0 : (0 : Int) ≤ (k : Int) := by omega
      have p1 : (k : Int) < (n : Int) := by omega
      have H := Lib.hid hbel
      clear hbel
      go_wp2_with fail
      go_region_held3 (fun w' => w'.cell? ⟨b1, o1 + k * 3, none⟩ = some (.float .f32 (P (k * 3))) ∧ w'.cell? ⟨b1, o1 + k * 3 + 1, none⟩ = some (.float .f32 (P (k * 3 + 1))) ∧ w'.cell? ⟨b1, o1 + k * 3 + 2, none⟩ = some (.float .f32 (P (k * 3 + 2))) ∧
        w'.cell? ⟨b2, o2 + k * 3, none⟩ = some (.float .f32 (Q (k * 3))) ∧ w'.cell? ⟨b2, o2 + k * 3 + 1, none⟩ = some (.float .f32 (Q (k * 3 + 1))) ∧ w'.cell? ⟨b2, o2 + k * 3 + 2, none⟩ = some (.float .f32 (Q (k * 3 + 2)))) (first | go_keep | (refine ⟨?_, ?_, ?_, ?_, ?_, ?_⟩ <;> exact cellKeep hb (by assumption))) ((go_at_call 35; refine (eqVector_of s1 s2 s3 t1 t2 t3 _).mono ?_; rintro e w' ⟨rfl, hb⟩))
      have hbel := belowNext H.out.drew hb
      have H2 := Lib.hid hbel
      clear hb hbel
      go_wp2_with fail
      go_roundw
      case rel => exact ⟨k + 1, by omega, by go_num, H2.out⟩
      case measure => simp [intOf]; omega
    · obtain rfl : k = n := by omega
      have H := Lib.hid hbel
      clear hbel
      go_wp2_with fail
      go_ret
      exact ⟨rfl, H.out⟩

theorem laws_szWire (a : Option Addr) (n c cu : Nat) (cl : Bool) (hn : n ≤ 1048576) (w : World) :
    Calls Try.prog 15 #[wireV (.slice a n c) cl cu, .int .i64 1048576] w fun e w' => e = .returned (.int .i64 (1048576 - (n : Int))) ∧ Below w.heap.size w w' := by
  have h1 : decide ((1048576 : Int) - (n : Int) < 0) = false := decide_eq_false (by omega)
  go_enter Try.func15, Try.ntmps15
  go_wp2_with (go_at_call 49; go_in)
  go_ret
  refine ⟨rfl, ?_⟩
  (repeat' (first | with_reducible exact Below.refl _ _ | with_reducible assumption | with_reducible exact belowNext (by assumption) (by assumption) | with_reducible exact belowAlloc (by assumption) _ | refine below_drewN ?_ _ | refine Below.alloc ?_ (by first | exact Nat.le_refl _ | (simp <;> omega)) _ | refine Below.setCell ?_ (by first | exact Nat.le_refl _ | (simp <;> omega)) _ | refine Below.trans ?_ (Below.mono (by assumption) (by first | exact Nat.le_refl _ | (simp <;> omega)))))
theorem laws_szWire_no (a : Option Addr) (n c cu : Nat) (cl : Bool) (hn : ¬ n ≤ 1048576) (hm : n ≤ 9223372036854775807) (w : World) :
    Calls Try.prog 15 #[wireV (.slice a n c) cl cu, .int .i64 1048576] w fun e w' => e = .returned (.int .i64 (-1)) ∧ Below w.heap.size w w' := by
  have h1 : decide ((1048576 : Int) - (n : Int) < 0) = true := decide_eq_true (by omega)
  go_enter Try.func15, Try.ntmps15
  go_wp2_with (go_at_call 49; go_in)
  go_ret
  refine ⟨rfl, ?_⟩
  (repeat' (first | with_reducible exact Below.refl _ _ | with_reducible assumption | with_reducible exact belowNext (by assumption) (by assumption) | with_reducible exact belowAlloc (by assumption) _ | refine below_drewN ?_ _ | refine Below.alloc ?_ (by first | exact Nat.le_refl _ | (simp <;> omega)) _ | refine Below.setCell ?_ (by first | exact Nat.le_refl _ | (simp <;> omega)) _ | refine Below.trans ?_ (Below.mono (by assumption) (by first | exact Nat.le_refl _ | (simp <;> omega)))))
theorem cellAt {w1 : World} {b i g j : Nat} {u v : Value} (h : w1.cell? ⟨b, i, none⟩ = some v) (hg : b ≠ g) : (w1.setCell ⟨g, j, none⟩ u).cell? ⟨b, i, none⟩ = some v := by
  rw [World.cell?_setCell_other _ _ _ _ (fun e => by injection e; omega)]; exact h
theorem wireCells {w1 : World} {g1 g2 : Nat} {x y z a b c a1 b1 c1 : Value} (hne : g1 ≠ g2) (u0 : w1.cell? ⟨g1, 0, none⟩ = some a1) (u1 : w1.cell? ⟨g1, 1, none⟩ = some b1) (u2 : w1.cell? ⟨g1, 2, none⟩ = some c1) :
    ((((((w1.setCell ⟨g2, 0, none⟩ x).setCell ⟨g2, 1, none⟩ y).setCell ⟨g2, 2, none⟩ z).setCell ⟨g1, 0, none⟩ a).setCell ⟨g1, 1, none⟩ b).setCell ⟨g1, 2, none⟩ c).cell? ⟨g1, 0, none⟩ = some a ∧
    ((((((w1.setCell ⟨g2, 0, none⟩ x).setCell ⟨g2, 1, none⟩ y).setCell ⟨g2, 2, none⟩ z).setCell ⟨g1, 0, none⟩ a).setCell ⟨g1, 1, none⟩ b).setCell ⟨g1, 2, none⟩ c).cell? ⟨g1, 1, none⟩ = some b ∧
    ((((((w1.setCell ⟨g2, 0, none⟩ x).setCell ⟨g2, 1, none⟩ y).setCell ⟨g2, 2, none⟩ z).setCell ⟨g1, 0, none⟩ a).setCell ⟨g1, 1, none⟩ b).setCell ⟨g1, 2, none⟩ c).cell? ⟨g1, 2, none⟩ = some c :=
  setThree (cellAt (cellAt (cellAt u0 hne) hne) hne) (cellAt (cellAt (cellAt u1 hne) hne) hne) (cellAt (cellAt (cellAt u2 hne) hne) hne)
theorem secondCells {w w1 : World} {o1 o3 : Obj} {a b c : Value} {t : TypeId} (hb : Below (((w.alloc o1).alloc (.cells #[a, b, c] t)).alloc o3).heap.size (((w.alloc o1).alloc (.cells #[a, b, c] t)).alloc o3) w1) :
    w1.cell? ⟨w.heap.size + 1, 0, none⟩ = some a ∧ w1.cell? ⟨w.heap.size + 1, 1, none⟩ = some b ∧ w1.cell? ⟨w.heap.size + 1, 2, none⟩ = some c := by
  have e : w.heap.size + 1 = (w.alloc o1).heap.size := by simp
  rw [e]
  exact ⟨cellKeep hb (cellAlloc (by rw [World.cell?_alloc_new]; rfl) _), cellKeep hb (cellAlloc (by rw [World.cell?_alloc_new]; rfl) _), cellKeep hb (cellAlloc (by rw [World.cell?_alloc_new]; rfl) _)⟩
theorem laws_szWireL (a : Option Addr) (n c cu m : Nat) (cl : Bool) (hn : n ≤ m) (hm : m ≤ 1048576) (w : World) :
    Calls Try.prog 15 #[wireV (.slice a n c) cl cu, .int .i64 (m : Int)] w fun e w' => e = .returned (.int .i64 ((m : Int) - (n : Int))) ∧ Below w.heap.size w w' := by
  have h1 : decide ((m : Int) - (n : Int) < 0) = false := decide_eq_false (by omega)
  go_enter Try.func15, Try.ntmps15
  go_wp2_with (go_at_call 49; go_in)
  go_ret
  refine ⟨rfl, ?_⟩
  (repeat' (first | with_reducible exact Below.refl _ _ | with_reducible assumption | with_reducible exact belowNext (by assumption) (by assumption) | with_reducible exact belowAlloc (by assumption) _ | refine below_drewN ?_ _ | refine Below.alloc ?_ (by first | exact Nat.le_refl _ | (simp <;> omega)) _ | refine Below.setCell ?_ (by first | exact Nat.le_refl _ | (simp <;> omega)) _ | refine Below.trans ?_ (Below.mono (by assumption) (by first | exact Nat.le_refl _ | (simp <;> omega)))))
theorem laws_szWireL_no (a : Option Addr) (n c cu m : Nat) (cl : Bool) (hn : ¬ n ≤ m) (hm : m ≤ 1048576) (hn2 : n ≤ 9223372036854775807) (w : World) :
    Calls Try.prog 15 #[wireV (.slice a n c) cl cu, .int .i64 (m : Int)] w fun e w' => e = .returned (.int .i64 (-1)) ∧ Below w.heap.size w w' := by
  have h1 : decide ((m : Int) - (n : Int) < 0) = true := decide_eq_true (by omega)
  go_enter Try.func15, Try.ntmps15
  go_wp2_with (go_at_call 49; go_in)
  go_ret
  refine ⟨rfl, ?_⟩
  (repeat' (first | with_reducible exact Below.refl _ _ | with_reducible assumption | with_reducible exact belowNext (by assumption) (by assumption) | with_reducible exact belowAlloc (by assumption) _ | refine below_drewN ?_ _ | refine Below.alloc ?_ (by first | exact Nat.le_refl _ | (simp <;> omega)) _ | refine Below.setCell ?_ (by first | exact Nat.le_refl _ | (simp <;> omega)) _ | refine Below.trans ?_ (Below.mono (by assumption) (by first | exact Nat.le_refl _ | (simp <;> omega)))))
/-- A new wire: its points are a block of its own. -/
def NewWire (n cu : Nat) (cl : Bool) (P : Nat → Nat) (w : World) (e : Ending) (w' : World) : Prop :=
  ∃ B, e = .returned (wireV (.slice (some ⟨B, 0, none⟩) n n) cl cu) ∧ w'.rowIs B 49 (n * 3) (fun i => .float .f32 (P i)) ∧ w.heap.size ≤ B ∧ Below w.heap.size w w'
theorem laws_toWire (b o n c cu : Nat) (cl : Bool) (P : Nat → Nat) (hn : n ≤ 1048576) (w : World) (hc : VS w b o n P) (hb : b < w.heap.size) :
    Calls Try.prog 17 #[wireV (.slice (some ⟨b, o, none⟩) n c) cl cu] w (NewWire n cu cl P w) := by
  have HC := Lib.hid hc
  clear hc
  go_enter Try.func17, Try.ntmps17
  go_wp2_with fail
  refine (laws_toVS b o n c P hn _ ?_ ?_).mono ?_
  · exact VS.below (b := b) (by (repeat' (first | with_reducible exact Below.refl _ _ | with_reducible assumption | with_reducible exact belowNext (by assumption) (by assumption) | with_reducible exact belowAlloc (by assumption) _ | refine below_drewN ?_ _ | refine Below.alloc ?_ (by first | exact Nat.le_refl _ | (simp <;> omega)) _ | refine Below.setCell ?_ (by first | exact Nat.le_refl _ | (simp <;> omega)) _ | refine Below.trans ?_ (Below.mono (by assumption) (by first | exact Nat.le_refl _ | (simp <;> omega)))))) hb HC.out
  · simp; omega
  rintro e w1 ⟨rfl, hrow, hbel⟩
  obtain ⟨h0, h1⟩ := bcell hbel
  have hz := hbel.size
  have H := Lib.hid (And.intro hrow hbel)
  simp only [World.size_alloc] at hz
  clear hrow hbel
  go_wp2_with fail
  obtain ⟨u0, u1, u2⟩ := secondCells H.out.2
  obtain ⟨t0, t1, t2⟩ := wireCells (g2 := w.heap.size + 1 + 1) (x := .slice (some ⟨w.heap.size + 1 + 1 + 1, 0, none⟩) n n) (y := .bool cl) (z := .float .f32 cu) (a := .slice (some ⟨w.heap.size + 1 + 1 + 1, 0, none⟩) n n) (b := .bool cl) (c := .float .f32 cu) (by omega) u0 u1 u2
  refine bodyPost_ret (v := wireV (.slice (some ⟨w.heap.size + 1 + 1 + 1, 0, none⟩) n n) cl cu) (by simp [results, Try.results17, go_sem, t0, t1, t2]) rfl ?_
  obtain ⟨hrow, hbel⟩ := H.out
  simp only [World.size_alloc] at hrow
  refine ⟨_, rfl, ?_, by omega, ?_⟩
  · have n2 : w.heap.size + 1 + 1 + 1 ≠ w.heap.size + 1 + 1 := by omega
    have n1 : w.heap.size + 1 + 1 + 1 ≠ w.heap.size + 1 := by omega
    exact (((((hrow.setOther n2 _).setOther n2 _).setOther n2 _).setOther n1 _).setOther n1 _).setOther n1 _
  · have g2 : w.heap.size ≤ w.heap.size + 1 + 1 := by omega
    have g1 : w.heap.size ≤ w.heap.size + 1 := by omega
    exact belowSet (belowSet (belowSet (belowSet (belowSet (belowSet (belowNext (belowAlloc (belowAlloc (belowAlloc (Below.refl _ _) _) _) _) hbel) g2) g2) g2) g1) g1) g1
theorem laws_toWire_nil (a : Option Addr) (c cu : Nat) (cl : Bool) (w : World) :
    Calls Try.prog 17 #[wireV (.slice a 0 c) cl cu] w (NewWire 0 cu cl (fun _ => 0) w) := by
  go_enter Try.func17, Try.ntmps17
  go_wp2_with fail
  refine (laws_toVS_nil _ _ _).mono ?_
  rintro e w1 ⟨rfl, hrow, hbel⟩
  obtain ⟨h0, h1⟩ := bcell hbel
  have hz := hbel.size
  have H := Lib.hid (And.intro hrow hbel)
  simp only [World.size_alloc] at hz
  clear hrow hbel
  go_wp2_with fail
  obtain ⟨u0, u1, u2⟩ := secondCells H.out.2
  obtain ⟨t0, t1, t2⟩ := wireCells (g2 := w.heap.size + 1 + 1) (x := .slice (some ⟨w.heap.size + 1 + 1 + 1, 0, none⟩) 0 0) (y := .bool cl) (z := .float .f32 cu) (a := .slice (some ⟨w.heap.size + 1 + 1 + 1, 0, none⟩) 0 0) (b := .bool cl) (c := .float .f32 cu) (by omega) u0 u1 u2
  refine bodyPost_ret (v := wireV (.slice (some ⟨w.heap.size + 1 + 1 + 1, 0, none⟩) 0 0) cl cu) (by simp [results, Try.results17, go_sem, t0, t1, t2]) rfl ?_
  obtain ⟨hrow, hbel⟩ := H.out
  simp only [World.size_alloc] at hrow
  refine ⟨_, rfl, ?_, by omega, ?_⟩
  · have n2 : w.heap.size + 1 + 1 + 1 ≠ w.heap.size + 1 + 1 := by omega
    have n1 : w.heap.size + 1 + 1 + 1 ≠ w.heap.size + 1 := by omega
    exact (((((hrow.setOther n2 _).setOther n2 _).setOther n2 _).setOther n1 _).setOther n1 _).setOther n1 _
  · have g2 : w.heap.size ≤ w.heap.size + 1 + 1 := by omega
    have g1 : w.heap.size ≤ w.heap.size + 1 := by omega
    exact belowSet (belowSet (belowSet (belowSet (belowSet (belowSet (belowNext (belowAlloc (belowAlloc (belowAlloc (Below.refl _ _) _) _) _) hbel) g2) g2) g2) g1) g1) g1
theorem laws_eqWire (b1 o1 c1 b2 o2 c2 n u1 u2 U : Nat) (cl : Bool) (P Q R : Nat → Nat) (hn : n ≤ 1048576) (w : World) (h1 : VS w b1 o1 n P) (h2 : VS w b2 o2 n Q) (hb1 : b1 < w.heap.size) (hb2 : b2 < w.heap.size) (hs : ∀ i, i < n * 3 → Same .f32 (P i) (R i) ∧ Same .f32 (Q i) (R i)) (hu1 : Same .f32 u1 U) (hu2 : Same .f32 u2 U) :
    Calls Try.prog 19 #[wireV (.slice (some ⟨b1, o1, none⟩) n c1) cl u1, wireV (.slice (some ⟨b2, o2, none⟩) n c2) cl u2] w (BoolIs true w) := by
  have H1 := Lib.hid h1
  have H2 := Lib.hid h2
  have HS := Lib.hid hs
  have cc : (cl != cl) = false := by simp
  clear h1 h2 hs
  go_enter Try.func19, Try.ntmps19
  go_wp2_with fail
  refine (laws_eqVS b1 o1 c1 b2 o2 c2 n P Q R hn _ ?_ ?_ ?_ ?_ HS.out).mono ?_
  · exact VS.keep (belowAlloc (belowAlloc (Below.refl _ _) _) _) H1.out
  · exact VS.keep (belowAlloc (belowAlloc (Below.refl _ _) _) _) H2.out
  · simp; omega
  · simp; omega
  rintro e w1 ⟨rfl, hbel⟩
  obtain ⟨h0, _⟩ := bcell hbel
  have hb3 := Lib.hid (belowNext (belowAlloc (belowAlloc (Below.refl w.heap.size w) _) _) hbel)
  clear hbel
  go_wp2_with (first | (refine wpList_wide some32 Try.underlying68 rfl rfl rfl ?_; intro _ _ _) | (go_at_call 55; refine (sameFloat_of (by assumption) (by assumption) (by assumption) (by assumption) _).mono ?_; rintro e w' ⟨rfl, n, rfl⟩))
  go_ret
  exact ⟨rfl, below_drewN hb3.out _⟩
/-- The vector k is finite; all vectors below n are. -/
def vfinP (P : Nat → Nat) (k : Nat) : Bool := finB (P (k * 3)) && (finB (P (k * 3 + 1)) && finB (P (k * 3 + 2)))
def allFin (P : Nat → Nat) : Nat → Bool
  | 0 => true
  | k + 1 => allFin P k && vfinP P k
theorem allFin_no {P : Nat → Nat} {k : Nat} (h : vfinP P k = false) : ∀ {n : Nat}, k < n → allFin P n = false := by
  intro n
  induction n with
  | zero => intro h; omega
  | succ n ih =>
    intro hk
    unfold allFin
    by_cases e : k = n
    · subst e; rw [h, Bool.and_false]
    · rw [ih (by omega), Bool.false_and]
/-- A wire is valid. -/
def validB (P : Nat → Nat) (n cu : Nat) : Bool := decide (2 ≤ n) && (decide (n ≤ 48) && (finB cu && allFin P n))
theorem spec_is (p b o n c cu : Nat) (P : Nat → Nat) (hn : n ≤ 9223372036854775807) (w : World) (c0 : w.cell? ⟨p, 0, none⟩ = some (.slice (some ⟨b, o, none⟩) n c)) (c2 : w.cell? ⟨p, 2, none⟩ = some (.float .f32 cu)) (hv : VS w b o n P) :
    Calls Try.prog 50 #[.pointer (some ⟨p, 0, none⟩)] w (BoolIs (validB P n cu) w) := by
  by_cases h2 : 2 ≤ n
  · have t2 : decide ((n : Int) < 2) = false := decide_eq_false (by omega)
    by_cases h48 : n ≤ 48
    · have t48 : decide (48 < (n : Int)) = false := decide_eq_false (by omega)
      cases hf : finB cu
      · have e : validB P n cu = false := by unfold validB; rw [hf, Bool.false_and, Bool.and_false, Bool.and_false]
        rw [e]
        clear e hv
        go_enter Try.func50, Try.ntmps50
        go_wp2_with (first | (go_at_call 88; refine (spec_l01Finite _ _).mono ?_; rw [hf]; rintro e w' ⟨rfl, nn, rfl⟩))
        go_ret
        exact ⟨rfl, below_drewN (Below.refl _ _) _⟩
      · have HV := Lib.hid hv
        have hvd : Hid (validB P n cu = allFin P n) := by
          have : validB P n cu = allFin P n := by unfold validB; rw [hf, decide_eq_true h2, decide_eq_true h48]; rfl
          exact Lib.hid this
        clear hv
        go_enter Try.func50, Try.ntmps50
        go_wp2_with (first | (go_at_call 88; refine (spec_l01Finite _ _).mono ?_; rw [hf]; rintro e w' ⟨rfl, nn, rfl⟩))
        go_loopw [3] (fun i wr => ∃ k : Nat, k ≤ n ∧ i = .int .i64 k ∧ allFin P k = true ∧ Below w.heap.size w wr) (fun i _ => n - (intOf i).toNat)
        case atStart => exact ⟨0, Nat.zero_le _, rfl, rfl, below_drewN (Below.refl _ _) _⟩
        case round =>
          obtain ⟨k, hk, rfl, hall, hbel⟩ := hrel
          have d0 := cellKeep hbel c0
          have d2 := cellKeep hbel c2
          have hall1 := Lib.hid hall
          have hvw := Lib.hid (VS.keep hbel HV.out)
          have hbel1 := Lib.hid hbel
          clear hall hbel
          by_cases hlt : k < n
          · obtain ⟨x1, x2, x3⟩ := hvw.out.three hlt
            cases hvk : (finB (P (k * 3)) && (finB (P (k * 3 + 1)) && finB (P (k * 3 + 2))))
            · go_wp2_with (first | (go_at_call 89; refine (spec_vfin _ _ _ _).mono ?_; rw [hvk]; rintro e w' ⟨rfl, hb⟩; have hb2 := Lib.hid hb; clear hb))
              go_ret
              refine ⟨ret_bool ?_, belowNext hbel1.out hb2.out⟩
              rw [hvd.out, allFin_no hvk hlt]
            · go_wp2_with (first | (go_at_call 89; refine (spec_vfin _ _ _ _).mono ?_; rw [hvk]; rintro e w' ⟨rfl, hb⟩; have hb2 := Lib.hid hb; clear hb))
              go_roundw
              case rel => exact ⟨k + 1, by omega, by go_num, by unfold allFin vfinP; rw [hall1.out, hvk]; rfl, belowNext hbel1.out hb2.out⟩
              case measure => simp [intOf]; omega
          · obtain rfl : k = n := by omega
            go_wp2_with fail
            go_ret
            exact ⟨ret_bool (by rw [hvd.out, hall1.out]), hbel1.out⟩
    · have t48 : decide (48 < (n : Int)) = true := decide_eq_true (by omega)
      have e : validB P n cu = false := by unfold validB; rw [decide_eq_false h48, Bool.false_and, Bool.and_false]
      rw [e]
      clear e hv
      go_enter Try.func50, Try.ntmps50
      go_wp2_with fail
      go_ret
      exact ⟨rfl, Below.refl _ _⟩
  · have t2 : decide ((n : Int) < 2) = true := decide_eq_true (by omega)
    have e : validB P n cu = false := by unfold validB; rw [decide_eq_false h2, Bool.false_and]
    rw [e]
    clear e hv
    go_enter Try.func50, Try.ntmps50
    go_wp2_with fail
    go_ret
    exact ⟨rfl, Below.refl _ _⟩
theorem spec_ValidWire (b o n c cu : Nat) (cl : Bool) (P : Nat → Nat) (hn : n ≤ 9223372036854775807) (w : World) (hv : VS w b o n P) :
    Calls Try.prog 16 #[wireV (.slice (some ⟨b, o, none⟩) n c) cl cu] w (BoolIs (validB P n cu) w) := by
  have HV := Lib.hid hv
  clear hv
  go_enter Try.func16, Try.ntmps16
  go_wp2_with fail
  refine (spec_is _ b o n c cu P hn _ ?_ ?_ ?_).mono ?_
  · simp
  · simp
  · exact VS.keep (belowAlloc (Below.refl _ _) _) HV.out
  rintro e w1 ⟨rfl, hbel⟩
  have hb3 := Lib.hid (belowNext (belowAlloc (Below.refl w.heap.size w) _) hbel)
  clear hbel
  go_wp2_with fail
  go_ret
  exact ⟨rfl, hb3.out⟩
theorem impl_notFin (x y z : Nat) (w : World) : Calls Try.prog 91 #[vecV x y z] w (BoolIs (!(finB x && (finB y && finB z))) w) := by
  cases hv : (finB x && (finB y && finB z))
  all_goals
    go_enter Try.func91, Try.ntmps91
    go_wp2_with (first | (go_at_call 92; refine (impl_vfin _ _ _ _).mono ?_; rw [hv]; rintro e w' ⟨rfl, hb⟩))
    go_ret
    refine ⟨rfl, ?_⟩
    (repeat' (first | with_reducible exact Below.refl _ _ | with_reducible assumption | with_reducible exact belowNext (by assumption) (by assumption) | with_reducible exact belowAlloc (by assumption) _ | refine below_drewN ?_ _ | refine Below.alloc ?_ (by first | exact Nat.le_refl _ | (simp <;> omega)) _ | refine Below.setCell ?_ (by first | exact Nat.le_refl _ | (simp <;> omega)) _ | refine Below.trans ?_ (Below.mono (by assumption) (by first | exact Nat.le_refl _ | (simp <;> omega)))))
def IdxIs (b : Bool) (w : World) (e : Ending) (w' : World) : Prop := ∃ r : Int, e = .returned (.int .i64 r) ∧ decide (0 ≤ r) = b ∧ Below w.heap.size w w'
theorem index_V (b o n c : Nat) (P : Nat → Nat) (hn : n ≤ 9223372036854775807) (w : World) (hv : VS w b o n P) :
    Calls Try.prog 99 #[.slice (some ⟨b, o, none⟩) n c, .func (Fn.func 91) #[] #[]] w (IdxIs (!allFin P n) w) := by
  have HV := Lib.hid hv
  clear hv
  go_enter Try.func99, Try.ntmps99
  go_wp2_with fail
  go_loopw [8] (fun i wr => ∃ k : Nat, k ≤ n ∧ i = .int .i64 k ∧ allFin P k = true ∧ Below w.heap.size w wr) (fun i _ => n - (intOf i).toNat)
  case atStart => exact ⟨0, Nat.zero_le _, rfl, rfl, Below.refl _ _⟩
  case round =>
    obtain ⟨k, hk, rfl, hall, hbel⟩ := hrel
    have hall1 := Lib.hid hall
    have hvw := Lib.hid (VS.keep hbel HV.out)
    have hbel1 := Lib.hid hbel
    clear hall hbel
    by_cases hlt : k < n
    · obtain ⟨x1, x2, x3⟩ := hvw.out.three hlt
      cases hvk : (finB (P (k * 3)) && (finB (P (k * 3 + 1)) && finB (P (k * 3 + 2))))
      · go_wp2_with (first | (go_at_call 91; refine (impl_notFin _ _ _ _).mono ?_; rw [hvk]; rintro e w' ⟨rfl, hb⟩; have hb2 := Lib.hid hb; clear hb))
        go_ret
        refine ⟨_, rfl, ?_, belowNext hbel1.out hb2.out⟩
        rw [allFin_no hvk hlt]
        exact decide_eq_true (by omega)
      · go_wp2_with (first | (go_at_call 91; refine (impl_notFin _ _ _ _).mono ?_; rw [hvk]; rintro e w' ⟨rfl, hb⟩; have hb2 := Lib.hid hb; clear hb))
        go_roundw
        case rel => exact ⟨k + 1, by omega, by go_num, by unfold allFin vfinP; rw [hall1.out, hvk]; rfl, belowNext hbel1.out hb2.out⟩
        case measure => simp [intOf]; omega
    · obtain rfl : k = n := by omega
      go_wp2_with fail
      go_ret
      refine ⟨_, rfl, ?_, hbel1.out⟩
      rw [hall1.out]
      exact decide_eq_false (by omega)
theorem impl_allFin (b o n c : Nat) (P : Nat → Nat) (hn : n ≤ 9223372036854775807) (w : World) (hv : VS w b o n P) :
    Calls Try.prog 52 #[.slice (some ⟨b, o, none⟩) n c] w (BoolIs (allFin P n) w) := by
  have HV := Lib.hid hv
  clear hv
  cases ha : allFin P n
  all_goals
    have IX := index_V b o n c P hn w HV.out
    rw [ha] at IX
    go_enter Try.func52, Try.ntmps52
    go_wp2_with (first | (go_at_call 90; go_in) | (go_at_call 99; refine IX.mono ?_; rintro e w' ⟨r, rfl, hr, hb⟩; have hb2 := Lib.hid hb; clear hb))
    go_ret
    refine ⟨ret_bool ?_, hb2.out⟩
    simp
theorem impl_ValidWire (b o n c cu : Nat) (cl : Bool) (P : Nat → Nat) (hn : n ≤ 9223372036854775807) (w : World) (hv : VS w b o n P) :
    Calls Try.prog 18 #[wireV (.slice (some ⟨b, o, none⟩) n c) cl cu] w (BoolIs (validB P n cu) w) := by
  have HV := Lib.hid hv
  clear hv
  by_cases h2 : 2 ≤ n
  · have t2 : decide ((2 : Int) ≤ (n : Int)) = true := decide_eq_true (by omega)
    by_cases h48 : n ≤ 48
    · have t48 : decide ((n : Int) ≤ 48) = true := decide_eq_true (by omega)
      have e : validB P n cu = (finB cu && allFin P n) := by unfold validB; rw [decide_eq_true h2, decide_eq_true h48]; rfl
      rw [e]
      clear e
      cases ha : allFin P n <;> cases hf : finB cu
      all_goals
        go_enter Try.func18, Try.ntmps18
        go_wp2_with fail
        refine (impl_allFin b o n c P hn _ ?_).mono ?_
        · exact VS.keep (belowAlloc (Below.refl _ _) _) HV.out
        rw [ha]
        rintro e w1 ⟨rfl, hbel⟩
        have hb3 := Lib.hid (belowNext (belowAlloc (Below.refl w.heap.size w) _) hbel)
        obtain ⟨h0, h1⟩ := bcell hbel
        clear hbel
        go_wp2_with (first | (go_at_call 53; refine (impl_IsFinite _ _).mono ?_; rw [hf]; rintro e w' ⟨rfl, nn, rfl⟩))
        go_ret
        first | exact ⟨rfl, hb3.out⟩ | exact ⟨rfl, below_drewN hb3.out _⟩
    · have t48 : decide ((n : Int) ≤ 48) = false := decide_eq_false (by omega)
      have e : validB P n cu = false := by unfold validB; rw [decide_eq_false h48, Bool.false_and, Bool.and_false]
      rw [e]
      clear e
      go_enter Try.func18, Try.ntmps18
      go_wp2_with fail
      go_ret
      exact ⟨rfl, belowAlloc (Below.refl _ _) _⟩
  · have t2 : decide ((2 : Int) ≤ (n : Int)) = false := decide_eq_false (by omega)
    have e : validB P n cu = false := by unfold validB; rw [decide_eq_false h2, Bool.false_and]
    rw [e]
    clear e
    go_enter Try.func18, Try.ntmps18
    go_wp2_with fail
    go_ret
    exact ⟨rfl, belowAlloc (Below.refl _ _) _⟩
/-- The points of a law's wire: none, or they lie in a block. -/
def PtsA (w : World) (a : Option Addr) (n : Nat) (P : Nat → Nat) : Prop := n = 0 ∨ ∃ b o, a = some ⟨b, o, none⟩ ∧ VS w b o n P ∧ b < w.heap.size
theorem PtsA.keep {w w' : World} {a : Option Addr} {n : Nat} {P : Nat → Nat} (hb : Below w.heap.size w w') (h : PtsA w a n P) : PtsA w' a n P := by
  rcases h with h | ⟨b, o, e, hv, hs⟩
  · exact .inl h
  · exact .inr ⟨b, o, e, VS.keep hb hv, Nat.lt_of_lt_of_le hs hb.size⟩
theorem PtsA.drewN {w : World} {a : Option Addr} {n : Nat} {P : Nat → Nat} (h : PtsA w a n P) (m : Nat) : PtsA (w.drewN m) a n P := h
theorem laws_toWireA (a : Option Addr) (n c cu : Nat) (cl : Bool) (P : Nat → Nat) (hn : n ≤ 1048576) (w : World) (h : PtsA w a n P) :
    Calls Try.prog 17 #[wireV (.slice a n c) cl cu] w (NewWire n cu cl P w) := by
  rcases h with rfl | ⟨b, o, rfl, hv, hs⟩
  · refine (laws_toWire_nil a c cu cl w).mono ?_
    rintro e w' ⟨B, rfl, row, hB, bel⟩
    exact ⟨B, rfl, row.congr (fun i hi => by omega), hB, bel⟩
  · exact laws_toWire b o n c cu cl P hn w hv hs
/-- A law's argument: a wire. -/
def Is_W (v : Value) (W : World) : Prop := ∃ a n c cl cu P, v = wireV (.slice a n c) cl cu ∧ n ≤ 9223372036854775807 ∧ PtsA W a n P ∧ (∀ i, P i < 4294967296) ∧ cu < 4294967296
/-- What lives on in a law: the argument's points, the copy's points. -/
def LiveW (W : World) (a : Option Addr) (n : Nat) (P : Nat → Nat) (BX : Nat) (w : World) : Prop := PtsA w a n P ∧ VS w BX 0 n P ∧ BX < w.heap.size ∧ Below W.heap.size W w
theorem LiveW.keep {W w w' : World} {a : Option Addr} {n BX : Nat} {P : Nat → Nat} (hb : Below w.heap.size w w') (h : LiveW W a n P BX w) : LiveW W a n P BX w' :=
  ⟨h.1.keep hb, VS.keep hb h.2.1, Nat.lt_of_lt_of_le h.2.2.1 hb.size, belowNext h.2.2.2 hb⟩
theorem LiveW.drewN {W w : World} {a : Option Addr} {n BX : Nat} {P : Nat → Nat} (h : LiveW W a n P BX w) (m : Nat) : LiveW W a n P BX (w.drewN m) := ⟨h.1, h.2.1, h.2.2.1, below_drewN h.2.2.2 m⟩
theorem LiveW.drew {W w : World} {a : Option Addr} {n BX : Nat} {P : Nat → Nat} (h : LiveW W a n P BX w) : LiveW W a n P BX w.drew := h.drewN 1
/-- What is held through the laws' last region. -/
abbrev SW (W : World) (a : Option Addr) (n c cu : Nat) (cl : Bool) (P : Nat → Nat) (X g : Nat) (w' : World) : Prop := w'.cell? ⟨g, 0, none⟩ = some (.slice (some ⟨X, 0, none⟩) n n) ∧ w'.cell? ⟨g, 1, none⟩ = some (.bool cl) ∧ w'.cell? ⟨g, 2, none⟩ = some (.float .f32 cu) ∧ w'.cell? ⟨W.heap.size, 0, none⟩ = some (.slice a n c) ∧ w'.cell? ⟨W.heap.size, 1, none⟩ = some (.bool cl) ∧ w'.cell? ⟨W.heap.size, 2, none⟩ = some (.float .f32 cu) ∧ LiveW W a n P X w'
theorem SW.keep {W w1 w2 : World} {a : Option Addr} {n c cu X g : Nat} {cl : Bool} {P : Nat → Nat} (hb : Below w1.heap.size w1 w2) (h : SW W a n c cu cl P X g w1) : SW W a n c cu cl P X g w2 := by
  obtain ⟨h0, h1, h2, h3, h4, h5, h6⟩ := h
  exact ⟨cellKeep hb h0, cellKeep hb h1, cellKeep hb h2, cellKeep hb h3, cellKeep hb h4, cellKeep hb h5, h6.keep hb⟩
theorem SW.drew {W w1 : World} {a : Option Addr} {n c cu X g : Nat} {cl : Bool} {P : Nat → Nat} (h : SW W a n c cu cl P X g w1) : SW W a n c cu cl P X g w1.drew := by
  obtain ⟨h0, h1, h2, h3, h4, h5, h6⟩ := h
  exact ⟨h0, h1, h2, h3, h4, h5, h6.drew⟩
theorem SW.live {W w1 : World} {a : Option Addr} {n c cu X g : Nat} {cl : Bool} {P : Nat → Nat} (h : SW W a n c cu cl P X g w1) : LiveW W a n P X w1 := h.2.2.2.2.2.2
theorem eqW_last (n cu : Nat) (cl : Bool) (P : Nat → Nat) (hn : n ≤ 1048576) {W w : World} {a : Option Addr} {c X g Y : Nat} (h : SW W a n c cu cl P X g w) (hY : Hid (VS w Y 0 n P ∧ Y < w.heap.size)) :
    Calls Try.prog 19 #[wireV (.slice (some ⟨X, 0, none⟩) n n) cl cu, wireV (.slice (some ⟨Y, 0, none⟩) n n) cl cu] w (BoolIs true w) :=
  laws_eqWire X 0 n Y 0 n n cu cu cu cl P P P hn _ h.live.2.1 hY.out.1 h.live.2.2.1 hY.out.2 (fun _ _ => ⟨Same.refl _ _, Same.refl _ _⟩) (Same.refl _ _) (Same.refl _ _)
theorem list3 {α : Type} {l : List α} (h : l.length = 3) : ∃ a b c, l = [a, b, c] := by
  match l, h with
  | [a, b, c], _ => exact ⟨a, b, c, rfl⟩
open Go.ChangeShapes Go.WideShapes Go.Joins Go.Deep in
theorem opened_W {H : Type} {enc : TypeId × Value → H} {W : World} {b0 base : Nat} {spare : Nat → Bool} {held : Bool} {v : Value} {d : DataW H} {p : List MemPlace}
    (hv : Value.okWide Try.prog W .any b0 25 v) (h : DataW.Trod enc Try.prog W base spare held 25 v d p) : ∃ a, a = v ∧ Is_W a W := by
  refine ⟨v, rfl, ?_⟩
  obtain ⟨v0, v1, v2, y0, y1, y2, m, rfl, _, _, h0, h1, h2⟩ := open_agg3 Try.underlying25 (by kernel_rfl) (by kernel_rfl) hv h
  obtain ⟨cl, e1, _⟩ := DataW.trod_bool Try.underlying4 h1
  obtain ⟨cu, e2, _, wcu⟩ := trod_float Try.underlying23 h2
  simp only [List.cons.injEq, and_true] at e1 e2
  subst e1 e2
  rcases open_slice Try.underlying22 h0 with ⟨hcs, _⟩ | ⟨a, len, cap, m2, n2, D, Pl, hcs, _, hl, hmx, hm2, _, hel⟩
  · simp only [List.cons.injEq, and_true] at hcs
    subst hcs
    exact ⟨_, _, _, _, _, fun _ => 0, rfl, by omega, .inl rfl, fun _ => by simp, wf32 wcu⟩
  · simp only [List.cons.injEq, and_true] at hcs
    subst hcs
    by_cases hz : len = 0
    · subst hz; exact ⟨_, _, _, _, _, fun _ => 0, rfl, by omega, .inl rfl, fun _ => by simp, wf32 wcu⟩
    · have ce : Try.prog.cellsOf 56 = 3 := by kernel_rfl
      have cf : Try.prog.cellsOf 23 = 1 := by kernel_rfl
      have hlm : len ≤ m2 := by rw [hm2]; split <;> omega
      have each : ∀ i, i < len → ∃ x y z, W.cell? (a.add (i * 3)) = some (.float .f32 x) ∧ W.cell? (a.add (i * 3 + 1)) = some (.float .f32 y) ∧ W.cell? (a.add (i * 3 + 2)) = some (.float .f32 z) ∧ x < 4294967296 ∧ y < 4294967296 ∧ z < 4294967296 := fun i hi => by
        obtain ⟨cs', g1, g2⟩ := hel i (by omega)
        rw [ce] at g1
        obtain ⟨_, hlen, hcell⟩ := World.cells?_some g1
        obtain ⟨x0, x1, x2, k, _, _, f0, f1, f2⟩ := trod_struct3 Try.underlying56 g2
        obtain ⟨c0, c1, c2, rfl⟩ := list3 hlen
        · have f0' : DataW.trod enc Try.prog W base spare held k 23 [c0] = some x0 := by simpa [cf] using f0
          have f1' : DataW.trod enc Try.prog W base spare held k 23 [c1] = some x1 := by simpa [cf] using f1
          have f2' : DataW.trod enc Try.prog W base spare held k 23 [c2] = some x2 := by simpa [cf] using f2
          obtain ⟨x, q0, _, wq0⟩ := trod_float Try.underlying23 f0'
          obtain ⟨y, q1, _, wq1⟩ := trod_float Try.underlying23 f1'
          obtain ⟨z, q2, _, wq2⟩ := trod_float Try.underlying23 f2'
          simp only [List.cons.injEq, and_true] at q0 q1 q2
          subst q0 q1 q2
          have e0 := hcell 0 (by omega)
          have e1 := hcell 1 (by omega)
          have e2 := hcell 2 (by omega)
          rw [add_add] at e0 e1 e2
          exact ⟨x, y, z, by simpa using e0, by simpa using e1, by simpa using e2, wf32 wq0, wf32 wq1, wf32 wq2⟩
      have one : ∀ j, j < len * 3 → ∃ x, W.cell? (a.add j) = some (.float .f32 x) ∧ x < 4294967296 := fun j hj => by
        obtain ⟨x, y, z, g0, g1, g2, l0, l1, l2⟩ := each (j / 3) (by omega)
        have hj3 : j = j / 3 * 3 ∨ j = j / 3 * 3 + 1 ∨ j = j / 3 * 3 + 2 := by omega
        rcases hj3 with e | e | e
        · exact ⟨x, by rw [e]; exact g0, l0⟩
        · exact ⟨y, by rw [e]; exact g1, l1⟩
        · exact ⟨z, by rw [e]; exact g2, l2⟩
      obtain ⟨b, off, spot⟩ := a
      obtain ⟨x0, hx0, _⟩ := one 0 (by omega)
      have hspot : spot = none := by simpa [Addr.add] using World.cell?_spot hx0
      subst hspot
      have hL : ∃ L : Nat → Nat, (∀ i, i < len * 3 → W.cell? ⟨b, off + i, none⟩ = some (.float .f32 (L i))) ∧ ∀ i, L i < 4294967296 := by
        refine ⟨fun i => if h : i < len * 3 then (one i h).choose else 0, fun i hi => ?_, fun i => ?_⟩
        · simp only [dif_pos hi]
          rw [← add_plain]
          exact (one i hi).choose_spec.1
        · by_cases hi : i < len * 3
          · simp only [dif_pos hi]; exact (one i hi).choose_spec.2
          · simp only [dif_neg hi]; omega
      obtain ⟨L, hL, hLb⟩ := hL
      refine ⟨_, _, _, _, _, L, rfl, by unfold maxLen at hmx; omega, .inr ⟨b, off, rfl, hL, ?_⟩, hLb, wf32 wcu⟩
      have := World.block_lt_of_cell? W _ (hL 0 (by omega)); exact this
end Go.Proofs.Ytfcniebfoboogaa
