/- Contracts of the vectors' functions and of the laws' own helpers on vectors. Conditions: none. -/
import Derived.Test.YtdbkhlkofegaaaaBase
namespace Go.Proofs.Ytdbkhlkofegaaaa
open Go.RowKit

/-- A vector as a value. -/
abbrev vecV (x y z : Nat) : Value := .agg #[.float .f32 x, .float .f32 y, .float .f32 z]
abbrev ad (x y : Nat) : Nat := fop .add .f32 x y
abbrev sb (x y : Nat) : Nat := fop .sub .f32 x y
abbrev mu (x y : Nat) : Nat := fop .mul .f32 x y
abbrev qu (x y : Nat) : Nat := fop .quo .f32 x y

/-- Returns a vector of these numbers (the bits of a not-a-number are open); what was there stays as it was. -/
def VecIs (X Y Z : Nat) (w : World) (e : Ending) (w' : World) : Prop :=
  ∃ x y z, e = .returned (vecV x y z) ∧ Same .f32 x X ∧ Same .f32 y Y ∧ Same .f32 z Z ∧ Below w.heap.size w w'
/-- Returns this number. -/
def NumIs (X : Nat) (w : World) (e : Ending) (w' : World) : Prop := ∃ x, e = .returned (.float .f32 x) ∧ Same .f32 x X ∧ Below w.heap.size w w'
/-- Returns this bool. -/
def BoolIs (b : Bool) (w : World) (e : Ending) (w' : World) : Prop := e = .returned (.bool b) ∧ Below w.heap.size w w'

theorem bcell {W w1 : World} (hb : Below W.heap.size W w1) : (∀ b o, b < W.heap.size → w1.cell? ⟨b, o, none⟩ = W.cell? ⟨b, o, none⟩) ∧ (∀ b o, b < W.heap.size → w1.frozen? ⟨b, o, none⟩ = W.frozen? ⟨b, o, none⟩) :=
  ⟨fun b o h => hb.cell (p := ⟨b, o, none⟩) h, fun b o h => hb.frozen (p := ⟨b, o, none⟩) h⟩

/-- A cell that is there is there behind a call that only makes memory. -/
theorem cellKeep {w1 w2 : World} {a : Addr} {v : Value} (hb : Below w1.heap.size w1 w2) (h : w1.cell? a = some v) : w2.cell? a = some v := by
  rw [hb.cell (World.block_lt_of_cell? w1 a h)]; exact h
theorem belowNext {W w1 w2 : World} (h : Below W.heap.size W w1) (hb : Below w1.heap.size w1 w2) : Below W.heap.size W w2 := h.trans (hb.mono h.size)
theorem sizeNext {n : Nat} {w1 w2 : World} (h : n < w1.heap.size) (hb : Below w1.heap.size w1 w2) : n < w2.heap.size := Nat.lt_of_lt_of_le h hb.size

theorem laws_toVector (x y z : Nat) (w : World) : Calls Try.prog 30 #[vecV x y z] w fun e w' => e = .returned (vecV x y z) ∧ Below w.heap.size w w' := by
  go_enter Try.func30, Try.ntmps30
  go_wp2_with fail
  refine bodyPost_ret (v := vecV x y z) (by simp [results, Try.results30, go_sem]) rfl ?_
  refine ⟨rfl, ?_⟩
  (repeat' (first | exact Below.refl _ _ | refine below_drewN ?_ _ | refine Below.alloc ?_ (by first | exact Nat.le_refl _ | (simp <;> omega)) _ | refine Below.setCell ?_ (by first | exact Nat.le_refl _ | (simp <;> omega)) _ | refine Below.trans ?_ (Below.mono (by assumption) (by first | exact Nat.le_refl _ | (simp <;> omega)))))
theorem spec_inner (x y z u v t : Nat) (w : World) : Calls Try.prog 46 #[vecV x y z, vecV u v t] w (NumIs (ad (ad (mu x u) (mu y v)) (mu z t)) w) := by
  go_enter Try.func46, Try.ntmps46
  go_wp2_with ((refine wpList_fop rfl rfl rfl rfl rfl ?_; intro _ _ _))
  go_ret
  refine ⟨_, rfl, ?_, ?_⟩
  · (repeat' (first | exact Same.refl _ _ | assumption | (apply Same.step; assumption)))
  · (repeat' (first | exact Below.refl _ _ | refine below_drewN ?_ _ | refine Below.alloc ?_ (by first | exact Nat.le_refl _ | (simp <;> omega)) _ | refine Below.setCell ?_ (by first | exact Nat.le_refl _ | (simp <;> omega)) _ | refine Below.trans ?_ (Below.mono (by assumption) (by first | exact Nat.le_refl _ | (simp <;> omega)))))
theorem impl_inner (x y z u v t : Nat) (w : World) : Calls Try.prog 31 #[vecV x y z, vecV u v t] w (NumIs (ad (ad (mu x u) (mu y v)) (mu z t)) w) := by
  go_enter Try.func31, Try.ntmps31
  go_wp2_with ((refine wpList_fop rfl rfl rfl rfl rfl ?_; intro _ _ _))
  go_ret
  refine ⟨_, rfl, ?_, ?_⟩
  · (repeat' (first | exact Same.refl _ _ | assumption | (apply Same.step; assumption)))
  · (repeat' (first | exact Below.refl _ _ | refine below_drewN ?_ _ | refine Below.alloc ?_ (by first | exact Nat.le_refl _ | (simp <;> omega)) _ | refine Below.setCell ?_ (by first | exact Nat.le_refl _ | (simp <;> omega)) _ | refine Below.trans ?_ (Below.mono (by assumption) (by first | exact Nat.le_refl _ | (simp <;> omega)))))
theorem spec_vsame (x y z u v t : Nat) (hx : x < 4294967296) (hy : y < 4294967296) (hz : z < 4294967296) (hu : u < 4294967296) (hv : v < 4294967296) (ht : t < 4294967296) (w : World) : Calls Try.prog 49 #[vecV x y z, vecV u v t] w (BoolIs (sameB x u && (sameB y v && sameB z t)) w) := by
  cases h1 : sameB x u <;> cases h2 : sameB y v <;> cases h3 : sameB z t
  all_goals
    go_enter Try.func49, Try.ntmps49
    go_wp2_with (first | (go_at_call 41; refine (spec_l01Same _ _ (by assumption) (by assumption) _).mono ?_; rintro e w' ⟨rfl, rfl⟩))
    go_ret
    refine ⟨rfl, ?_⟩
    (repeat' (first | exact Below.refl _ _ | refine below_drewN ?_ _ | refine Below.alloc ?_ (by first | exact Nat.le_refl _ | (simp <;> omega)) _ | refine Below.setCell ?_ (by first | exact Nat.le_refl _ | (simp <;> omega)) _ | refine Below.trans ?_ (Below.mono (by assumption) (by first | exact Nat.le_refl _ | (simp <;> omega)))))
theorem impl_vsame (x y z u v t : Nat) (hx : x < 4294967296) (hy : y < 4294967296) (hz : z < 4294967296) (hu : u < 4294967296) (hv : v < 4294967296) (ht : t < 4294967296) (w : World) : Calls Try.prog 35 #[vecV x y z, vecV u v t] w (BoolIs (sameB x u && (sameB y v && sameB z t)) w) := by
  cases h1 : sameB x u <;> cases h2 : sameB y v <;> cases h3 : sameB z t
  all_goals
    go_enter Try.func35, Try.ntmps35
    go_wp2_with (first | (go_at_call 26; refine (impl_SameNumber _ _ (by assumption) (by assumption) _).mono ?_; rintro e w' ⟨rfl, rfl⟩))
    go_ret
    refine ⟨rfl, ?_⟩
    (repeat' (first | exact Below.refl _ _ | refine below_drewN ?_ _ | refine Below.alloc ?_ (by first | exact Nat.le_refl _ | (simp <;> omega)) _ | refine Below.setCell ?_ (by first | exact Nat.le_refl _ | (simp <;> omega)) _ | refine Below.trans ?_ (Below.mono (by assumption) (by first | exact Nat.le_refl _ | (simp <;> omega)))))
theorem spec_InnerOf (x y z u v t : Nat) (w : World) : Calls Try.prog 29 #[vecV x y z, vecV u v t] w (NumIs (ad (ad (mu x u) (mu y v)) (mu z t)) w) := by
  go_enter Try.func29, Try.ntmps29
  go_wp2_with (first | (go_at_call 46; refine (spec_inner _ _ _ _ _ _ _).mono ?_; rintro e w' ⟨p, rfl, hp, hb⟩))
  go_ret
  refine ⟨_, rfl, hp, ?_⟩
  (repeat' (first | exact Below.refl _ _ | refine below_drewN ?_ _ | refine Below.alloc ?_ (by first | exact Nat.le_refl _ | (simp <;> omega)) _ | refine Below.setCell ?_ (by first | exact Nat.le_refl _ | (simp <;> omega)) _ | refine Below.trans ?_ (Below.mono (by assumption) (by first | exact Nat.le_refl _ | (simp <;> omega)))))
theorem spec_SameVector (x y z u v t : Nat) (hx : x < 4294967296) (hy : y < 4294967296) (hz : z < 4294967296) (hu : u < 4294967296) (hv : v < 4294967296) (ht : t < 4294967296) (w : World) : Calls Try.prog 34 #[vecV x y z, vecV u v t] w (BoolIs (sameB x u && (sameB y v && sameB z t)) w) := by
  go_enter Try.func34, Try.ntmps34
  go_wp2_with (first | (go_at_call 49; refine (spec_vsame _ _ _ _ _ _ hx hy hz hu hv ht _).mono ?_; rintro e w' ⟨rfl, hb⟩))
  go_ret
  refine ⟨rfl, ?_⟩
  (repeat' (first | exact Below.refl _ _ | refine below_drewN ?_ _ | refine Below.alloc ?_ (by first | exact Nat.le_refl _ | (simp <;> omega)) _ | refine Below.setCell ?_ (by first | exact Nat.le_refl _ | (simp <;> omega)) _ | refine Below.trans ?_ (Below.mono (by assumption) (by first | exact Nat.le_refl _ | (simp <;> omega)))))
/-- The law's own test on two results that are the same number. -/
theorem sameFloat_of {a b u v m : Nat} (ha : Same .f64 a (cv u)) (hb : Same .f64 b (cv v)) (h1 : Same .f32 u m) (h2 : Same .f32 v m) (w : World) :
    Calls Try.prog 18 #[.float .f64 a, .float .f64 b] w fun e w' => e = .returned (.bool true) ∧ ∃ n, w' = w.drewN n :=
  sameFloat_true a b (ha.trans ((cv_same (h1.trans h2.symm)).trans hb.symm)) w
end Go.Proofs.Ytdbkhlkofegaaaa
