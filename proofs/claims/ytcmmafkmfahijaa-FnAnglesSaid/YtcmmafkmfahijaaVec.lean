/- Contracts of the vectors' functions and of the laws' own helpers on vectors. Conditions: none. -/
import Derived.Test.YtcmmafkmfahijaaBase
namespace Go.Proofs.Ytcmmafkmfahijaa
open Go.RowKit

/-- A vector as a value. -/
abbrev vecV (x y z : Nat) : Value := .agg #[.float .f32 x, .float .f32 y, .float .f32 z]
abbrev ad (x y : Nat) : Nat := fop .add .f32 x y
abbrev sb (x y : Nat) : Nat := fop .sub .f32 x y
abbrev mu (x y : Nat) : Nat := fop .mul .f32 x y
abbrev qu (x y : Nat) : Nat := fop .quo .f32 x y

/-- Returns a vector of these numbers (the bits of a not-a-number are open); what was there stays as it was. -/
def VecIs (X Y Z : Nat) (w : World) (e : Ending) (w' : World) : Prop :=
  ∃ x y z, e = .returned (vecV x y z) ∧ Same .f32 x X ∧ Same .f32 y Y ∧ Same .f32 z Z ∧ Below w.heap.size w w'
/-- Returns this number. -/
def NumIs (X : Nat) (w : World) (e : Ending) (w' : World) : Prop := ∃ x, e = .returned (.float .f32 x) ∧ Same .f32 x X ∧ Below w.heap.size w w'
/-- Returns this bool. -/
def BoolIs (b : Bool) (w : World) (e : Ending) (w' : World) : Prop := e = .returned (.bool b) ∧ Below w.heap.size w w'

theorem bcell {W w1 : World} (hb : Below W.heap.size W w1) : (∀ b o, b < W.heap.size → w1.cell? ⟨b, o, none⟩ = W.cell? ⟨b, o, none⟩) ∧ (∀ b o, b < W.heap.size → w1.frozen? ⟨b, o, none⟩ = W.frozen? ⟨b, o, none⟩) :=
  ⟨fun b o h => hb.cell (p := ⟨b, o, none⟩) h, fun b o h => hb.frozen (p := ⟨b, o, none⟩) h⟩

/-- A cell that is there is there behind a call that only makes memory. -/
theorem cellKeep {w1 w2 : World} {a : Addr} {v : Value} (hb : Below w1.heap.size w1 w2) (h : w1.cell? a = some v) : w2.cell? a = some v := by
  rw [hb.cell (World.block_lt_of_cell? w1 a h)]; exact h
theorem belowNext {W w1 w2 : World} (h : Below W.heap.size W w1) (hb : Below w1.heap.size w1 w2) : Below W.heap.size W w2 := h.trans (hb.mono h.size)
theorem sizeNext {n : Nat} {w1 w2 : World} (h : n < w1.heap.size) (hb : Below w1.heap.size w1 w2) : n < w2.heap.size := Nat.lt_of_lt_of_le h hb.size

theorem belowAlloc {W w1 : World} (h : Below W.heap.size W w1) (o : Obj) : Below W.heap.size W (w1.alloc o) := h.alloc h.size o
theorem belowRe {W w1 : World} {o o' : Obj} (h : Below W.heap.size W (w1.alloc o)) (hs : W.heap.size ≤ w1.heap.size) : Below W.heap.size W (w1.alloc o') := by
  refine ⟨h.os, h.tape, h.output, by simp; omega, fun i hi => ?_⟩
  rw [Below.heap_alloc _ _ _ (by omega), ← h.block i hi, Below.heap_alloc _ _ _ (by omega)]
theorem cellRe {w1 : World} {o o' : Obj} {b i : Nat} {v : Value} (h : (w1.alloc o).cell? ⟨b, i, none⟩ = some v) (hs : b < w1.heap.size) : (w1.alloc o').cell? ⟨b, i, none⟩ = some v := by
  rw [World.cell?_of_block (w := w1) (Below.heap_alloc _ _ _ hs)] at h ⊢; exact h
theorem sizeAlloc {n : Nat} {w1 : World} (h : n < w1.heap.size) (o : Obj) : n < (w1.alloc o).heap.size := by simp; omega
theorem cellAlloc {w1 : World} {a : Addr} {v : Value} (h : w1.cell? a = some v) (o : Obj) : (w1.alloc o).cell? a = some v := by
  rw [World.cell?_alloc_lt _ _ _ (World.block_lt_of_cell? w1 a h)]; exact h
theorem cellSet {w1 : World} {b i g j : Nat} {u v : Value} (h : w1.cell? ⟨b, i, none⟩ = some v) (hg : b < g) : (w1.setCell ⟨g, j, none⟩ u).cell? ⟨b, i, none⟩ = some v := by
  rw [World.cell?_setCell_other _ _ _ _ (fun e => by injection e; omega)]; exact h
theorem cellSetV {w0 w1 : World} {m b i j : Nat} {u v : Value} (h : w1.cell? ⟨b, i, none⟩ = some v) (hg : Hid (m < w0.heap.size)) (hb : b ≤ m) : (w1.setCell ⟨w0.heap.size, j, none⟩ u).cell? ⟨b, i, none⟩ = some v :=
  cellSet h (Nat.lt_of_le_of_lt hb hg.out)
theorem belowSet {W w1 : World} {g j : Nat} {u : Value} (h : Below W.heap.size W w1) (hg : W.heap.size ≤ g) : Below W.heap.size W (w1.setCell ⟨g, j, none⟩ u) := h.setCell hg u
theorem belowSetV {W w0 w1 : World} {m j : Nat} {u : Value} (h : Below W.heap.size W w1) (hg : Hid (m < w0.heap.size)) (hb : W.heap.size ≤ m) : Below W.heap.size W (w1.setCell ⟨w0.heap.size, j, none⟩ u) :=
  belowSet h (Nat.le_of_lt (Nat.lt_of_le_of_lt hb hg.out))
theorem sizeSet {n g j : Nat} {w1 : World} {u : Value} (h : n < w1.heap.size) : n < (w1.setCell ⟨g, j, none⟩ u).heap.size := by simpa using h
/-- A variable of the law's own that holds a vector: a block above m. -/
def VarV (X Y Z m : Nat) (s : Value) (w : World) : Prop :=
  ∃ g p q r, s = .pointer (some ⟨g, 0, none⟩) ∧ m < g ∧ w.cell? ⟨g, 0, none⟩ = some (.float .f32 p) ∧ w.cell? ⟨g, 1, none⟩ = some (.float .f32 q) ∧ w.cell? ⟨g, 2, none⟩ = some (.float .f32 r) ∧ Same .f32 p X ∧ Same .f32 q Y ∧ Same .f32 r Z

theorem laws_toVector (x y z : Nat) (w : World) : Calls Try.prog 50 #[vecV x y z] w fun e w' => e = .returned (vecV x y z) ∧ Below w.heap.size w w' := by
  go_enter Try.func50, Try.ntmps50
  go_wp2_with fail
  refine bodyPost_ret (v := vecV x y z) (by simp [results, Try.results50, go_sem]) rfl ?_
  refine ⟨rfl, ?_⟩
  (repeat' (first | with_reducible exact Below.refl _ _ | with_reducible assumption | with_reducible exact belowNext (by assumption) (by assumption) | with_reducible exact belowAlloc (by assumption) _ | refine below_drewN ?_ _ | refine Below.alloc ?_ (by first | exact Nat.le_refl _ | (simp <;> omega)) _ | refine Below.setCell ?_ (by first | exact Nat.le_refl _ | (simp <;> omega)) _ | refine Below.trans ?_ (Below.mono (by assumption) (by first | exact Nat.le_refl _ | (simp <;> omega)))))
theorem spec_less (x y z u v t : Nat) (w : World) : Calls Try.prog 93 #[vecV x y z, vecV u v t] w (VecIs (sb x u) (sb y v) (sb z t) w) := by
  go_enter Try.func93, Try.ntmps93
  go_wp2_with ((refine wpList_fop rfl rfl rfl rfl rfl ?_; intro _ _ _))
  rename_i c1 _ _ c2 _ _ c3 _ _
  refine bodyPost_ret (v := vecV c1 c2 c3) (by simp [results, Try.results93, go_sem]) rfl ?_
  refine ⟨_, _, _, rfl, ?_, ?_, ?_, ?_⟩
  · (repeat' (first | exact Same.refl _ _ | assumption | (apply Same.step; assumption)))
  · (repeat' (first | exact Same.refl _ _ | assumption | (apply Same.step; assumption)))
  · (repeat' (first | exact Same.refl _ _ | assumption | (apply Same.step; assumption)))
  · (repeat' (first | with_reducible exact Below.refl _ _ | with_reducible assumption | with_reducible exact belowNext (by assumption) (by assumption) | with_reducible exact belowAlloc (by assumption) _ | refine below_drewN ?_ _ | refine Below.alloc ?_ (by first | exact Nat.le_refl _ | (simp <;> omega)) _ | refine Below.setCell ?_ (by first | exact Nat.le_refl _ | (simp <;> omega)) _ | refine Below.trans ?_ (Below.mono (by assumption) (by first | exact Nat.le_refl _ | (simp <;> omega)))))
theorem impl_less (x y z u v t : Nat) (w : World) : Calls Try.prog 97 #[vecV x y z, vecV u v t] w (VecIs (sb x u) (sb y v) (sb z t) w) := by
  go_enter Try.func97, Try.ntmps97
  go_wp2_with ((refine wpList_fop rfl rfl rfl rfl rfl ?_; intro _ _ _))
  rename_i c1 _ _ c2 _ _ c3 _ _
  refine bodyPost_ret (v := vecV c1 c2 c3) (by simp [results, Try.results97, go_sem]) rfl ?_
  refine ⟨_, _, _, rfl, ?_, ?_, ?_, ?_⟩
  · (repeat' (first | exact Same.refl _ _ | assumption | (apply Same.step; assumption)))
  · (repeat' (first | exact Same.refl _ _ | assumption | (apply Same.step; assumption)))
  · (repeat' (first | exact Same.refl _ _ | assumption | (apply Same.step; assumption)))
  · (repeat' (first | with_reducible exact Below.refl _ _ | with_reducible assumption | with_reducible exact belowNext (by assumption) (by assumption) | with_reducible exact belowAlloc (by assumption) _ | refine below_drewN ?_ _ | refine Below.alloc ?_ (by first | exact Nat.le_refl _ | (simp <;> omega)) _ | refine Below.setCell ?_ (by first | exact Nat.le_refl _ | (simp <;> omega)) _ | refine Below.trans ?_ (Below.mono (by assumption) (by first | exact Nat.le_refl _ | (simp <;> omega)))))
theorem spec_scale (x y z s : Nat) (w : World) : Calls Try.prog 92 #[vecV x y z, .float .f32 s] w (VecIs (mu x s) (mu y s) (mu z s) w) := by
  go_enter Try.func92, Try.ntmps92
  go_wp2_with ((refine wpList_fop rfl rfl rfl rfl rfl ?_; intro _ _ _))
  rename_i c1 _ _ c2 _ _ c3 _ _
  refine bodyPost_ret (v := vecV c1 c2 c3) (by simp [results, Try.results92, go_sem]) rfl ?_
  refine ⟨_, _, _, rfl, ?_, ?_, ?_, ?_⟩
  · (repeat' (first | exact Same.refl _ _ | assumption | (apply Same.step; assumption)))
  · (repeat' (first | exact Same.refl _ _ | assumption | (apply Same.step; assumption)))
  · (repeat' (first | exact Same.refl _ _ | assumption | (apply Same.step; assumption)))
  · (repeat' (first | with_reducible exact Below.refl _ _ | with_reducible assumption | with_reducible exact belowNext (by assumption) (by assumption) | with_reducible exact belowAlloc (by assumption) _ | refine below_drewN ?_ _ | refine Below.alloc ?_ (by first | exact Nat.le_refl _ | (simp <;> omega)) _ | refine Below.setCell ?_ (by first | exact Nat.le_refl _ | (simp <;> omega)) _ | refine Below.trans ?_ (Below.mono (by assumption) (by first | exact Nat.le_refl _ | (simp <;> omega)))))
theorem impl_scale (x y z s : Nat) (w : World) : Calls Try.prog 96 #[vecV x y z, .float .f32 s] w (VecIs (mu x s) (mu y s) (mu z s) w) := by
  go_enter Try.func96, Try.ntmps96
  go_wp2_with ((refine wpList_fop rfl rfl rfl rfl rfl ?_; intro _ _ _))
  rename_i c1 _ _ c2 _ _ c3 _ _
  refine bodyPost_ret (v := vecV c1 c2 c3) (by simp [results, Try.results96, go_sem]) rfl ?_
  refine ⟨_, _, _, rfl, ?_, ?_, ?_, ?_⟩
  · (repeat' (first | exact Same.refl _ _ | assumption | (apply Same.step; assumption)))
  · (repeat' (first | exact Same.refl _ _ | assumption | (apply Same.step; assumption)))
  · (repeat' (first | exact Same.refl _ _ | assumption | (apply Same.step; assumption)))
  · (repeat' (first | with_reducible exact Below.refl _ _ | with_reducible assumption | with_reducible exact belowNext (by assumption) (by assumption) | with_reducible exact belowAlloc (by assumption) _ | refine below_drewN ?_ _ | refine Below.alloc ?_ (by first | exact Nat.le_refl _ | (simp <;> omega)) _ | refine Below.setCell ?_ (by first | exact Nat.le_refl _ | (simp <;> omega)) _ | refine Below.trans ?_ (Below.mono (by assumption) (by first | exact Nat.le_refl _ | (simp <;> omega)))))
theorem spec_cross (x y z u v t : Nat) (w : World) : Calls Try.prog 111 #[vecV x y z, vecV u v t] w (VecIs (sb (mu y t) (mu z v)) (sb (mu z u) (mu x t)) (sb (mu x v) (mu y u)) w) := by
  go_enter Try.func111, Try.ntmps111
  go_wp2_with ((refine wpList_fop rfl rfl rfl rfl rfl ?_; intro _ _ _))
  rename_i _ _ _ _ _ _ c1 _ _ _ _ _ _ _ _ c2 _ _ _ _ _ _ _ _ c3 _ _
  refine bodyPost_ret (v := vecV c1 c2 c3) (by simp [results, Try.results111, go_sem]) rfl ?_
  refine ⟨_, _, _, rfl, ?_, ?_, ?_, ?_⟩
  · (repeat' (first | exact Same.refl _ _ | assumption | (apply Same.step; assumption)))
  · (repeat' (first | exact Same.refl _ _ | assumption | (apply Same.step; assumption)))
  · (repeat' (first | exact Same.refl _ _ | assumption | (apply Same.step; assumption)))
  · (repeat' (first | with_reducible exact Below.refl _ _ | with_reducible assumption | with_reducible exact belowNext (by assumption) (by assumption) | with_reducible exact belowAlloc (by assumption) _ | refine below_drewN ?_ _ | refine Below.alloc ?_ (by first | exact Nat.le_refl _ | (simp <;> omega)) _ | refine Below.setCell ?_ (by first | exact Nat.le_refl _ | (simp <;> omega)) _ | refine Below.trans ?_ (Below.mono (by assumption) (by first | exact Nat.le_refl _ | (simp <;> omega)))))
theorem impl_cross (x y z u v t : Nat) (w : World) : Calls Try.prog 99 #[vecV x y z, vecV u v t] w (VecIs (sb (mu y t) (mu z v)) (sb (mu z u) (mu x t)) (sb (mu x v) (mu y u)) w) := by
  go_enter Try.func99, Try.ntmps99
  go_wp2_with ((refine wpList_fop rfl rfl rfl rfl rfl ?_; intro _ _ _))
  rename_i _ _ _ _ _ _ c1 _ _ _ _ _ _ _ _ c2 _ _ _ _ _ _ _ _ c3 _ _
  refine bodyPost_ret (v := vecV c1 c2 c3) (by simp [results, Try.results99, go_sem]) rfl ?_
  refine ⟨_, _, _, rfl, ?_, ?_, ?_, ?_⟩
  · (repeat' (first | exact Same.refl _ _ | assumption | (apply Same.step; assumption)))
  · (repeat' (first | exact Same.refl _ _ | assumption | (apply Same.step; assumption)))
  · (repeat' (first | exact Same.refl _ _ | assumption | (apply Same.step; assumption)))
  · (repeat' (first | with_reducible exact Below.refl _ _ | with_reducible assumption | with_reducible exact belowNext (by assumption) (by assumption) | with_reducible exact belowAlloc (by assumption) _ | refine below_drewN ?_ _ | refine Below.alloc ?_ (by first | exact Nat.le_refl _ | (simp <;> omega)) _ | refine Below.setCell ?_ (by first | exact Nat.le_refl _ | (simp <;> omega)) _ | refine Below.trans ?_ (Below.mono (by assumption) (by first | exact Nat.le_refl _ | (simp <;> omega)))))
theorem spec_inner (x y z u v t : Nat) (w : World) : Calls Try.prog 90 #[vecV x y z, vecV u v t] w (NumIs (ad (ad (mu x u) (mu y v)) (mu z t)) w) := by
  go_enter Try.func90, Try.ntmps90
  go_wp2_with ((refine wpList_fop rfl rfl rfl rfl rfl ?_; intro _ _ _))
  go_ret
  refine ⟨_, rfl, ?_, ?_⟩
  · (repeat' (first | exact Same.refl _ _ | assumption | (apply Same.step; assumption)))
  · (repeat' (first | with_reducible exact Below.refl _ _ | with_reducible assumption | with_reducible exact belowNext (by assumption) (by assumption) | with_reducible exact belowAlloc (by assumption) _ | refine below_drewN ?_ _ | refine Below.alloc ?_ (by first | exact Nat.le_refl _ | (simp <;> omega)) _ | refine Below.setCell ?_ (by first | exact Nat.le_refl _ | (simp <;> omega)) _ | refine Below.trans ?_ (Below.mono (by assumption) (by first | exact Nat.le_refl _ | (simp <;> omega)))))
theorem impl_inner (x y z u v t : Nat) (w : World) : Calls Try.prog 82 #[vecV x y z, vecV u v t] w (NumIs (ad (ad (mu x u) (mu y v)) (mu z t)) w) := by
  go_enter Try.func82, Try.ntmps82
  go_wp2_with ((refine wpList_fop rfl rfl rfl rfl rfl ?_; intro _ _ _))
  go_ret
  refine ⟨_, rfl, ?_, ?_⟩
  · (repeat' (first | exact Same.refl _ _ | assumption | (apply Same.step; assumption)))
  · (repeat' (first | with_reducible exact Below.refl _ _ | with_reducible assumption | with_reducible exact belowNext (by assumption) (by assumption) | with_reducible exact belowAlloc (by assumption) _ | refine below_drewN ?_ _ | refine Below.alloc ?_ (by first | exact Nat.le_refl _ | (simp <;> omega)) _ | refine Below.setCell ?_ (by first | exact Nat.le_refl _ | (simp <;> omega)) _ | refine Below.trans ?_ (Below.mono (by assumption) (by first | exact Nat.le_refl _ | (simp <;> omega)))))
theorem spec_vfin (x y z : Nat) (w : World) : Calls Try.prog 89 #[vecV x y z] w (BoolIs (finB x && (finB y && finB z)) w) := by
  cases h1 : finB x <;> cases h2 : finB y <;> cases h3 : finB z
  all_goals
    go_enter Try.func89, Try.ntmps89
    go_wp2_with (first | (go_at_call 73; refine (spec_l01Finite _ _).mono ?_; rintro e w' ⟨rfl, n, rfl⟩))
    go_ret
    refine ⟨rfl, ?_⟩
    (repeat' (first | with_reducible exact Below.refl _ _ | with_reducible assumption | with_reducible exact belowNext (by assumption) (by assumption) | with_reducible exact belowAlloc (by assumption) _ | refine below_drewN ?_ _ | refine Below.alloc ?_ (by first | exact Nat.le_refl _ | (simp <;> omega)) _ | refine Below.setCell ?_ (by first | exact Nat.le_refl _ | (simp <;> omega)) _ | refine Below.trans ?_ (Below.mono (by assumption) (by first | exact Nat.le_refl _ | (simp <;> omega)))))
theorem impl_vfin (x y z : Nat) (w : World) : Calls Try.prog 94 #[vecV x y z] w (BoolIs (finB x && (finB y && finB z)) w) := by
  cases h1 : finB x <;> cases h2 : finB y <;> cases h3 : finB z
  all_goals
    go_enter Try.func94, Try.ntmps94
    go_wp2_with (first | (go_at_call 35; refine (impl_IsFinite _ _).mono ?_; rintro e w' ⟨rfl, n, rfl⟩))
    go_ret
    refine ⟨rfl, ?_⟩
    (repeat' (first | with_reducible exact Below.refl _ _ | with_reducible assumption | with_reducible exact belowNext (by assumption) (by assumption) | with_reducible exact belowAlloc (by assumption) _ | refine below_drewN ?_ _ | refine Below.alloc ?_ (by first | exact Nat.le_refl _ | (simp <;> omega)) _ | refine Below.setCell ?_ (by first | exact Nat.le_refl _ | (simp <;> omega)) _ | refine Below.trans ?_ (Below.mono (by assumption) (by first | exact Nat.le_refl _ | (simp <;> omega)))))
/-- The law's own test on two results that are the same number. -/
theorem sameFloat_of {a b u v m : Nat} (ha : Same .f64 a (cv u)) (hb : Same .f64 b (cv v)) (h1 : Same .f32 u m) (h2 : Same .f32 v m) (w : World) :
    Calls Try.prog 17 #[.float .f64 a, .float .f64 b] w fun e w' => e = .returned (.bool true) ∧ ∃ n, w' = w.drewN n :=
  sameFloat_true a b (ha.trans ((cv_same (h1.trans h2.symm)).trans hb.symm)) w
theorem eqVector_of {x y z u v t X Y Z : Nat} (h1 : Same .f32 x X) (h2 : Same .f32 y Y) (h3 : Same .f32 z Z) (g1 : Same .f32 u X) (g2 : Same .f32 v Y) (g3 : Same .f32 t Z) (w : World) :
    Calls Try.prog 52 #[vecV x y z, vecV u v t] w (BoolIs true w) := by
  go_enter Try.func52, Try.ntmps52
  go_wp2_with (first | (refine wpList_wide some32 Try.underlying28 rfl rfl rfl ?_; intro _ _ _) | (go_at_call 17; refine (sameFloat_of (by assumption) (by assumption) (by assumption) (by assumption) _).mono ?_; rintro e w' ⟨rfl, n, rfl⟩))
  go_ret
  refine ⟨rfl, ?_⟩
  (repeat' (first | with_reducible exact Below.refl _ _ | with_reducible assumption | with_reducible exact belowNext (by assumption) (by assumption) | with_reducible exact belowAlloc (by assumption) _ | refine below_drewN ?_ _ | refine Below.alloc ?_ (by first | exact Nat.le_refl _ | (simp <;> omega)) _ | refine Below.setCell ?_ (by first | exact Nat.le_refl _ | (simp <;> omega)) _ | refine Below.trans ?_ (Below.mono (by assumption) (by first | exact Nat.le_refl _ | (simp <;> omega)))))
end Go.Proofs.Ytcmmafkmfahijaa
