/- What is held through a region of a law that draws its order: the boxed vectors and the law's own variables, while callees make memory. Conditions: none. -/
import Derived.Test.YtcmmafkmfahijaaVec
namespace Go.Proofs.Ytcmmafkmfahijaa
open Go.RowKit

/-- A new block of three cells, read behind a call that only makes memory. -/
theorem newCells {w1 w2 : World} {a b c : Value} {t : TypeId} (hb : Below (w1.alloc (.cells #[a, b, c] t)).heap.size (w1.alloc (.cells #[a, b, c] t)) w2) :
    w2.cell? ⟨w1.heap.size, 0, none⟩ = some a ∧ w2.cell? ⟨w1.heap.size, 1, none⟩ = some b ∧ w2.cell? ⟨w1.heap.size, 2, none⟩ = some c ∧
    w2.frozen? ⟨w1.heap.size, 0, none⟩ = false ∧ w2.frozen? ⟨w1.heap.size, 1, none⟩ = false ∧ w2.frozen? ⟨w1.heap.size, 2, none⟩ = false := by
  have hl : ∀ i, (⟨w1.heap.size, i, none⟩ : Addr).block < (w1.alloc (.cells #[a, b, c] t)).heap.size := fun i => by simp
  refine ⟨?_, ?_, ?_, ?_, ?_, ?_⟩
  · rw [hb.cell (hl 0), World.cell?_alloc_new]; rfl
  · rw [hb.cell (hl 1), World.cell?_alloc_new]; rfl
  · rw [hb.cell (hl 2), World.cell?_alloc_new]; rfl
  all_goals
    rw [hb.frozen (hl _)]
    simp
theorem newCellsD {w1 w2 : World} {a b c : Value} {t : TypeId} (hb : Below (w1.alloc (.cells #[a, b, c] t)).drew.heap.size (w1.alloc (.cells #[a, b, c] t)).drew w2) :
    w2.cell? ⟨w1.heap.size, 0, none⟩ = some a ∧ w2.cell? ⟨w1.heap.size, 1, none⟩ = some b ∧ w2.cell? ⟨w1.heap.size, 2, none⟩ = some c ∧
    w2.frozen? ⟨w1.heap.size, 0, none⟩ = false ∧ w2.frozen? ⟨w1.heap.size, 1, none⟩ = false ∧ w2.frozen? ⟨w1.heap.size, 2, none⟩ = false :=
  newCells (t := t) ⟨hb.os, hb.tape, hb.output, hb.size, hb.block⟩
theorem carryCells {w1 w2 : World} {a b c : Value} {g : Nat} (h : w1.cell? ⟨g, 0, none⟩ = some a ∧ w1.cell? ⟨g, 1, none⟩ = some b ∧ w1.cell? ⟨g, 2, none⟩ = some c ∧
    w1.frozen? ⟨g, 0, none⟩ = false ∧ w1.frozen? ⟨g, 1, none⟩ = false ∧ w1.frozen? ⟨g, 2, none⟩ = false) (hb : Below w1.heap.size w1 w2) :
    w2.cell? ⟨g, 0, none⟩ = some a ∧ w2.cell? ⟨g, 1, none⟩ = some b ∧ w2.cell? ⟨g, 2, none⟩ = some c ∧
    w2.frozen? ⟨g, 0, none⟩ = false ∧ w2.frozen? ⟨g, 1, none⟩ = false ∧ w2.frozen? ⟨g, 2, none⟩ = false := by
  obtain ⟨h1, h2, h3, h4, h5, h6⟩ := h
  have hl : ∀ i, (⟨g, i, none⟩ : Addr).block < w1.heap.size := fun i => by
    have := World.block_lt_of_cell? w1 _ h1; exact this
  exact ⟨cellKeep hb h1, cellKeep hb h2, cellKeep hb h3, by rw [hb.frozen (hl _)]; exact h4, by rw [hb.frozen (hl _)]; exact h5, by rw [hb.frozen (hl _)]; exact h6⟩
/-- Three stores into a block: what it holds, and that it is a variable. -/
theorem setThree {w : World} {g : Nat} {a b c a' b' c' : Value} (h1 : w.cell? ⟨g, 0, none⟩ = some a') (h2 : w.cell? ⟨g, 1, none⟩ = some b') (h3 : w.cell? ⟨g, 2, none⟩ = some c') :
    (((w.setCell ⟨g, 0, none⟩ a).setCell ⟨g, 1, none⟩ b).setCell ⟨g, 2, none⟩ c).cell? ⟨g, 0, none⟩ = some a ∧
    (((w.setCell ⟨g, 0, none⟩ a).setCell ⟨g, 1, none⟩ b).setCell ⟨g, 2, none⟩ c).cell? ⟨g, 1, none⟩ = some b ∧
    (((w.setCell ⟨g, 0, none⟩ a).setCell ⟨g, 1, none⟩ b).setCell ⟨g, 2, none⟩ c).cell? ⟨g, 2, none⟩ = some c := by
  have e : ∀ {i j : Nat}, i ≠ j → (⟨g, i, none⟩ : Addr) ≠ ⟨g, j, none⟩ := fun h e => by injection e; omega
  refine ⟨?_, ?_, ?_⟩
  · rw [World.cell?_setCell_other _ _ _ _ (e (by omega)), World.cell?_setCell_other _ _ _ _ (e (by omega))]
    exact World.cell?_setCell_same _ _ _ h1
  · rw [World.cell?_setCell_other _ _ _ _ (e (by omega))]
    refine World.cell?_setCell_same _ _ _ (u := b') ?_
    rw [World.cell?_setCell_other _ _ _ _ (e (by omega))]; exact h2
  · refine World.cell?_setCell_same _ _ _ (u := c') ?_
    rw [World.cell?_setCell_other _ _ _ _ (e (by omega)), World.cell?_setCell_other _ _ _ _ (e (by omega))]; exact h3

theorem VarV.new {X Y Z m p q r : Nat} {w1 : World} {t : TypeId} (hm : m < w1.heap.size) (hp : Same .f32 p X) (hq : Same .f32 q Y) (hr : Same .f32 r Z) :
    VarV X Y Z m (.pointer (some ⟨w1.heap.size, 0, none⟩)) (w1.alloc (.cells #[.float .f32 p, .float .f32 q, .float .f32 r] t)) :=
  ⟨_, p, q, r, rfl, hm, by rw [World.cell?_alloc_new]; rfl, by rw [World.cell?_alloc_new]; rfl, by rw [World.cell?_alloc_new]; rfl, hp, hq, hr⟩
theorem VarV.set {X Y Z m p q r g : Nat} {w1 : World} {a b c : Value} (hn : w1.cell? ⟨g, 0, none⟩ = some a ∧ w1.cell? ⟨g, 1, none⟩ = some b ∧ w1.cell? ⟨g, 2, none⟩ = some c ∧
    w1.frozen? ⟨g, 0, none⟩ = false ∧ w1.frozen? ⟨g, 1, none⟩ = false ∧ w1.frozen? ⟨g, 2, none⟩ = false) (hm : m < g) (hp : Same .f32 p X) (hq : Same .f32 q Y) (hr : Same .f32 r Z) :
    VarV X Y Z m (.pointer (some ⟨g, 0, none⟩)) (((w1.setCell ⟨g, 0, none⟩ (.float .f32 p)).setCell ⟨g, 1, none⟩ (.float .f32 q)).setCell ⟨g, 2, none⟩ (.float .f32 r)) := by
  obtain ⟨h1, h2, h3⟩ := setThree (a := .float .f32 p) (b := .float .f32 q) (c := .float .f32 r) hn.1 hn.2.1 hn.2.2.1
  exact ⟨g, p, q, r, rfl, hm, h1, h2, h3, hp, hq, hr⟩

abbrev S10 (W : World) (x0 y0 z0 : Nat) (w' : World) : Prop := w'.cell? ⟨W.heap.size, 0, none⟩ = some (.float .f32 x0) ∧ w'.cell? ⟨W.heap.size, 1, none⟩ = some (.float .f32 y0) ∧ w'.cell? ⟨W.heap.size, 2, none⟩ = some (.float .f32 z0) ∧ Below W.heap.size W w' ∧ W.heap.size < w'.heap.size
def R10 (W : World) (x0 y0 z0 : Nat) (w' : World) : Prop := S10 W x0 y0 z0 w'
section
variable {W : World} {x0 y0 z0 : Nat}
theorem S10.keep {w1 w2 : World} (hb : Below w1.heap.size w1 w2) (h : S10 W x0 y0 z0 w1) : S10 W x0 y0 z0 w2 := by
  obtain ⟨h0, h1, h2, hB, hs⟩ := h
  exact ⟨cellKeep hb h0, cellKeep hb h1, cellKeep hb h2, belowNext hB hb, sizeNext hs hb⟩
theorem S10.drew {w1 : World} (h : S10 W x0 y0 z0 w1) : S10 W x0 y0 z0 w1.drew := by
  obtain ⟨h0, h1, h2, hB, hs⟩ := h
  exact ⟨h0, h1, h2, hB.drew, hs⟩
theorem S10.size {w1 : World} (h : S10 W x0 y0 z0 w1) : Hid (W.heap.size < w1.heap.size) := by
  obtain ⟨_, _, _, _, hs⟩ := h
  exact hs
theorem S10.alloc {w1 : World} (h : S10 W x0 y0 z0 w1) (ob : Obj) : S10 W x0 y0 z0 (w1.alloc ob) := by
  obtain ⟨h0, h1, h2, hB, hs⟩ := h
  exact ⟨cellAlloc h0 ob, cellAlloc h1 ob, cellAlloc h2 ob, belowAlloc hB ob, sizeAlloc hs ob⟩
theorem S10.re {w1 : World} {ob : Obj} (hm : Hid (W.heap.size < w1.heap.size)) (h : S10 W x0 y0 z0 (w1.alloc ob)) (ob' : Obj) : S10 W x0 y0 z0 (w1.alloc ob') := by
  obtain ⟨h0, h1, h2, hB, hs⟩ := h
  have hm' := hm.out
  exact ⟨cellRe h0 (by omega), cellRe h1 (by omega), cellRe h2 (by omega), belowRe hB (by omega), sizeAlloc hm' ob'⟩
theorem S10.set {w1 : World} {a b c : Value} {gg : Nat} (hg : W.heap.size < gg) (h : S10 W x0 y0 z0 w1) : S10 W x0 y0 z0 (((w1.setCell ⟨gg, 0, none⟩ a).setCell ⟨gg, 1, none⟩ b).setCell ⟨gg, 2, none⟩ c) := by
  obtain ⟨h0, h1, h2, hB, hs⟩ := h
  exact ⟨cellSet (cellSet (cellSet h0 (by omega)) (by omega)) (by omega), cellSet (cellSet (cellSet h1 (by omega)) (by omega)) (by omega), cellSet (cellSet (cellSet h2 (by omega)) (by omega)) (by omega), belowSet (belowSet (belowSet hB (by omega)) (by omega)) (by omega), sizeSet (sizeSet (sizeSet hs))⟩
theorem S10.undrew {w1 : World} (h : S10 W x0 y0 z0 w1.drew) : S10 W x0 y0 z0 w1 := by
  obtain ⟨h0, h1, h2, hB, hs⟩ := h
  exact ⟨h0, h1, h2, ⟨hB.os, hB.tape, hB.output, hB.size, hB.block⟩, hs⟩
theorem S10.allocD {w1 : World} (h : S10 W x0 y0 z0 w1.drew) (ob : Obj) : S10 W x0 y0 z0 (w1.alloc ob).drew := S10.drew (S10.alloc (w1 := w1) (by
    obtain ⟨h0, h1, h2, hB, hs⟩ := h
    exact ⟨h0, h1, h2, ⟨hB.os, hB.tape, hB.output, hB.size, hB.block⟩, hs⟩) ob)
theorem S10.start (T : TypeId) : S10 W x0 y0 z0 (W.alloc (.cells #[.float .f32 x0, .float .f32 y0, .float .f32 z0] T)).drew := by
  refine ⟨?_, ?_, ?_, ?_, ?_⟩
  all_goals first | (simp; done) | skip
  refine Below.drew ?_
  (repeat' (first | with_reducible exact Below.refl _ _ | with_reducible assumption | with_reducible exact belowNext (by assumption) (by assumption) | with_reducible exact belowAlloc (by assumption) _ | refine below_drewN ?_ _ | refine Below.alloc ?_ (by first | exact Nat.le_refl _ | (simp <;> omega)) _ | refine Below.setCell ?_ (by first | exact Nat.le_refl _ | (simp <;> omega)) _ | refine Below.trans ?_ (Below.mono (by assumption) (by first | exact Nat.le_refl _ | (simp <;> omega)))))
end
abbrev S11 (W : World) (x0 y0 z0 g p q r : Nat) (w' : World) : Prop := w'.cell? ⟨W.heap.size, 0, none⟩ = some (.float .f32 x0) ∧ w'.cell? ⟨W.heap.size, 1, none⟩ = some (.float .f32 y0) ∧ w'.cell? ⟨W.heap.size, 2, none⟩ = some (.float .f32 z0) ∧ w'.cell? ⟨g, 0, none⟩ = some (.float .f32 p) ∧ w'.cell? ⟨g, 1, none⟩ = some (.float .f32 q) ∧ w'.cell? ⟨g, 2, none⟩ = some (.float .f32 r) ∧ Below W.heap.size W w' ∧ g < w'.heap.size
def R11 (W : World) (x0 y0 z0 g p q r : Nat) (w' : World) : Prop := S11 W x0 y0 z0 g p q r w'
section
variable {W : World} {x0 y0 z0 g p q r : Nat}
theorem S11.keep {w1 w2 : World} (hb : Below w1.heap.size w1 w2) (h : S11 W x0 y0 z0 g p q r w1) : S11 W x0 y0 z0 g p q r w2 := by
  obtain ⟨h0, h1, h2, h3, h4, h5, hB, hs⟩ := h
  exact ⟨cellKeep hb h0, cellKeep hb h1, cellKeep hb h2, cellKeep hb h3, cellKeep hb h4, cellKeep hb h5, belowNext hB hb, sizeNext hs hb⟩
theorem S11.drew {w1 : World} (h : S11 W x0 y0 z0 g p q r w1) : S11 W x0 y0 z0 g p q r w1.drew := by
  obtain ⟨h0, h1, h2, h3, h4, h5, hB, hs⟩ := h
  exact ⟨h0, h1, h2, h3, h4, h5, hB.drew, hs⟩
theorem S11.size {w1 : World} (h : S11 W x0 y0 z0 g p q r w1) : Hid (g < w1.heap.size) := by
  obtain ⟨_, _, _, _, _, _, _, hs⟩ := h
  exact hs
theorem S11.alloc {w1 : World} (h : S11 W x0 y0 z0 g p q r w1) (ob : Obj) : S11 W x0 y0 z0 g p q r (w1.alloc ob) := by
  obtain ⟨h0, h1, h2, h3, h4, h5, hB, hs⟩ := h
  exact ⟨cellAlloc h0 ob, cellAlloc h1 ob, cellAlloc h2 ob, cellAlloc h3 ob, cellAlloc h4 ob, cellAlloc h5 ob, belowAlloc hB ob, sizeAlloc hs ob⟩
theorem S11.re {w1 : World} {ob : Obj} (hA : Hid (W.heap.size < g)) (hm : Hid (g < w1.heap.size)) (h : S11 W x0 y0 z0 g p q r (w1.alloc ob)) (ob' : Obj) : S11 W x0 y0 z0 g p q r (w1.alloc ob') := by
  obtain ⟨h0, h1, h2, h3, h4, h5, hB, hs⟩ := h
  have hm' := hm.out
  have hA' := hA.out; exact ⟨cellRe h0 (by omega), cellRe h1 (by omega), cellRe h2 (by omega), cellRe h3 (by omega), cellRe h4 (by omega), cellRe h5 (by omega), belowRe hB (by omega), sizeAlloc hm' ob'⟩
theorem S11.set {w1 : World} {a b c : Value} {gg : Nat} (hA : Hid (W.heap.size < g)) (hg : g < gg) (h : S11 W x0 y0 z0 g p q r w1) : S11 W x0 y0 z0 g p q r (((w1.setCell ⟨gg, 0, none⟩ a).setCell ⟨gg, 1, none⟩ b).setCell ⟨gg, 2, none⟩ c) := by
  obtain ⟨h0, h1, h2, h3, h4, h5, hB, hs⟩ := h
  have hA' := hA.out; exact ⟨cellSet (cellSet (cellSet h0 (by omega)) (by omega)) (by omega), cellSet (cellSet (cellSet h1 (by omega)) (by omega)) (by omega), cellSet (cellSet (cellSet h2 (by omega)) (by omega)) (by omega), cellSet (cellSet (cellSet h3 (by omega)) (by omega)) (by omega), cellSet (cellSet (cellSet h4 (by omega)) (by omega)) (by omega), cellSet (cellSet (cellSet h5 (by omega)) (by omega)) (by omega), belowSet (belowSet (belowSet hB (by omega)) (by omega)) (by omega), sizeSet (sizeSet (sizeSet hs))⟩
theorem S11.undrew {w1 : World} (h : S11 W x0 y0 z0 g p q r w1.drew) : S11 W x0 y0 z0 g p q r w1 := by
  obtain ⟨h0, h1, h2, h3, h4, h5, hB, hs⟩ := h
  exact ⟨h0, h1, h2, h3, h4, h5, ⟨hB.os, hB.tape, hB.output, hB.size, hB.block⟩, hs⟩
theorem S11.allocD {w1 : World} (h : S11 W x0 y0 z0 g p q r w1.drew) (ob : Obj) : S11 W x0 y0 z0 g p q r (w1.alloc ob).drew := S11.drew (S11.alloc (w1 := w1) (by
    obtain ⟨h0, h1, h2, h3, h4, h5, hB, hs⟩ := h
    exact ⟨h0, h1, h2, h3, h4, h5, ⟨hB.os, hB.tape, hB.output, hB.size, hB.block⟩, hs⟩) ob)
theorem S11.of {w1 : World} (h : S10 W x0 y0 z0 w1) (c0 : w1.cell? ⟨g, 0, none⟩ = some (.float .f32 p)) (c1 : w1.cell? ⟨g, 1, none⟩ = some (.float .f32 q)) (c2 : w1.cell? ⟨g, 2, none⟩ = some (.float .f32 r)) : S11 W x0 y0 z0 g p q r w1 := by
  obtain ⟨h0, h1, h2, hB, _⟩ := h
  exact ⟨h0, h1, h2, c0, c1, c2, hB, World.block_lt_of_cell? w1 _ c0⟩
end
abbrev S20 (W : World) (x0 y0 z0 x1 y1 z1 : Nat) (w' : World) : Prop := w'.cell? ⟨W.heap.size, 0, none⟩ = some (.float .f32 x0) ∧ w'.cell? ⟨W.heap.size, 1, none⟩ = some (.float .f32 y0) ∧ w'.cell? ⟨W.heap.size, 2, none⟩ = some (.float .f32 z0) ∧ w'.cell? ⟨W.heap.size + 1, 0, none⟩ = some (.float .f32 x1) ∧ w'.cell? ⟨W.heap.size + 1, 1, none⟩ = some (.float .f32 y1) ∧ w'.cell? ⟨W.heap.size + 1, 2, none⟩ = some (.float .f32 z1) ∧ Below W.heap.size W w' ∧ W.heap.size + 1 < w'.heap.size
def R20 (W : World) (x0 y0 z0 x1 y1 z1 : Nat) (w' : World) : Prop := S20 W x0 y0 z0 x1 y1 z1 w'
section
variable {W : World} {x0 y0 z0 x1 y1 z1 : Nat}
theorem S20.keep {w1 w2 : World} (hb : Below w1.heap.size w1 w2) (h : S20 W x0 y0 z0 x1 y1 z1 w1) : S20 W x0 y0 z0 x1 y1 z1 w2 := by
  obtain ⟨h0, h1, h2, h3, h4, h5, hB, hs⟩ := h
  exact ⟨cellKeep hb h0, cellKeep hb h1, cellKeep hb h2, cellKeep hb h3, cellKeep hb h4, cellKeep hb h5, belowNext hB hb, sizeNext hs hb⟩
theorem S20.drew {w1 : World} (h : S20 W x0 y0 z0 x1 y1 z1 w1) : S20 W x0 y0 z0 x1 y1 z1 w1.drew := by
  obtain ⟨h0, h1, h2, h3, h4, h5, hB, hs⟩ := h
  exact ⟨h0, h1, h2, h3, h4, h5, hB.drew, hs⟩
theorem S20.size {w1 : World} (h : S20 W x0 y0 z0 x1 y1 z1 w1) : Hid (W.heap.size + 1 < w1.heap.size) := by
  obtain ⟨_, _, _, _, _, _, _, hs⟩ := h
  exact hs
theorem S20.alloc {w1 : World} (h : S20 W x0 y0 z0 x1 y1 z1 w1) (ob : Obj) : S20 W x0 y0 z0 x1 y1 z1 (w1.alloc ob) := by
  obtain ⟨h0, h1, h2, h3, h4, h5, hB, hs⟩ := h
  exact ⟨cellAlloc h0 ob, cellAlloc h1 ob, cellAlloc h2 ob, cellAlloc h3 ob, cellAlloc h4 ob, cellAlloc h5 ob, belowAlloc hB ob, sizeAlloc hs ob⟩
theorem S20.re {w1 : World} {ob : Obj} (hm : Hid (W.heap.size + 1 < w1.heap.size)) (h : S20 W x0 y0 z0 x1 y1 z1 (w1.alloc ob)) (ob' : Obj) : S20 W x0 y0 z0 x1 y1 z1 (w1.alloc ob') := by
  obtain ⟨h0, h1, h2, h3, h4, h5, hB, hs⟩ := h
  have hm' := hm.out
  exact ⟨cellRe h0 (by omega), cellRe h1 (by omega), cellRe h2 (by omega), cellRe h3 (by omega), cellRe h4 (by omega), cellRe h5 (by omega), belowRe hB (by omega), sizeAlloc hm' ob'⟩
theorem S20.set {w1 : World} {a b c : Value} {gg : Nat} (hg : W.heap.size + 1 < gg) (h : S20 W x0 y0 z0 x1 y1 z1 w1) : S20 W x0 y0 z0 x1 y1 z1 (((w1.setCell ⟨gg, 0, none⟩ a).setCell ⟨gg, 1, none⟩ b).setCell ⟨gg, 2, none⟩ c) := by
  obtain ⟨h0, h1, h2, h3, h4, h5, hB, hs⟩ := h
  exact ⟨cellSet (cellSet (cellSet h0 (by omega)) (by omega)) (by omega), cellSet (cellSet (cellSet h1 (by omega)) (by omega)) (by omega), cellSet (cellSet (cellSet h2 (by omega)) (by omega)) (by omega), cellSet (cellSet (cellSet h3 (by omega)) (by omega)) (by omega), cellSet (cellSet (cellSet h4 (by omega)) (by omega)) (by omega), cellSet (cellSet (cellSet h5 (by omega)) (by omega)) (by omega), belowSet (belowSet (belowSet hB (by omega)) (by omega)) (by omega), sizeSet (sizeSet (sizeSet hs))⟩
theorem S20.undrew {w1 : World} (h : S20 W x0 y0 z0 x1 y1 z1 w1.drew) : S20 W x0 y0 z0 x1 y1 z1 w1 := by
  obtain ⟨h0, h1, h2, h3, h4, h5, hB, hs⟩ := h
  exact ⟨h0, h1, h2, h3, h4, h5, ⟨hB.os, hB.tape, hB.output, hB.size, hB.block⟩, hs⟩
theorem S20.allocD {w1 : World} (h : S20 W x0 y0 z0 x1 y1 z1 w1.drew) (ob : Obj) : S20 W x0 y0 z0 x1 y1 z1 (w1.alloc ob).drew := S20.drew (S20.alloc (w1 := w1) (by
    obtain ⟨h0, h1, h2, h3, h4, h5, hB, hs⟩ := h
    exact ⟨h0, h1, h2, h3, h4, h5, ⟨hB.os, hB.tape, hB.output, hB.size, hB.block⟩, hs⟩) ob)
theorem S20.start (T : TypeId) : S20 W x0 y0 z0 x1 y1 z1 ((W.alloc (.cells #[.float .f32 x0, .float .f32 y0, .float .f32 z0] T)).alloc (.cells #[.float .f32 x1, .float .f32 y1, .float .f32 z1] T)).drew := by
  refine ⟨?_, ?_, ?_, ?_, ?_, ?_, ?_, ?_⟩
  all_goals first | (simp; done) | skip
  refine Below.drew ?_
  (repeat' (first | with_reducible exact Below.refl _ _ | with_reducible assumption | with_reducible exact belowNext (by assumption) (by assumption) | with_reducible exact belowAlloc (by assumption) _ | refine below_drewN ?_ _ | refine Below.alloc ?_ (by first | exact Nat.le_refl _ | (simp <;> omega)) _ | refine Below.setCell ?_ (by first | exact Nat.le_refl _ | (simp <;> omega)) _ | refine Below.trans ?_ (Below.mono (by assumption) (by first | exact Nat.le_refl _ | (simp <;> omega)))))
end
abbrev S21 (W : World) (x0 y0 z0 x1 y1 z1 g p q r : Nat) (w' : World) : Prop := w'.cell? ⟨W.heap.size, 0, none⟩ = some (.float .f32 x0) ∧ w'.cell? ⟨W.heap.size, 1, none⟩ = some (.float .f32 y0) ∧ w'.cell? ⟨W.heap.size, 2, none⟩ = some (.float .f32 z0) ∧ w'.cell? ⟨W.heap.size + 1, 0, none⟩ = some (.float .f32 x1) ∧ w'.cell? ⟨W.heap.size + 1, 1, none⟩ = some (.float .f32 y1) ∧ w'.cell? ⟨W.heap.size + 1, 2, none⟩ = some (.float .f32 z1) ∧ w'.cell? ⟨g, 0, none⟩ = some (.float .f32 p) ∧ w'.cell? ⟨g, 1, none⟩ = some (.float .f32 q) ∧ w'.cell? ⟨g, 2, none⟩ = some (.float .f32 r) ∧ Below W.heap.size W w' ∧ g < w'.heap.size
def R21 (W : World) (x0 y0 z0 x1 y1 z1 g p q r : Nat) (w' : World) : Prop := S21 W x0 y0 z0 x1 y1 z1 g p q r w'
section
variable {W : World} {x0 y0 z0 x1 y1 z1 g p q r : Nat}
theorem S21.keep {w1 w2 : World} (hb : Below w1.heap.size w1 w2) (h : S21 W x0 y0 z0 x1 y1 z1 g p q r w1) : S21 W x0 y0 z0 x1 y1 z1 g p q r w2 := by
  obtain ⟨h0, h1, h2, h3, h4, h5, h6, h7, h8, hB, hs⟩ := h
  exact ⟨cellKeep hb h0, cellKeep hb h1, cellKeep hb h2, cellKeep hb h3, cellKeep hb h4, cellKeep hb h5, cellKeep hb h6, cellKeep hb h7, cellKeep hb h8, belowNext hB hb, sizeNext hs hb⟩
theorem S21.drew {w1 : World} (h : S21 W x0 y0 z0 x1 y1 z1 g p q r w1) : S21 W x0 y0 z0 x1 y1 z1 g p q r w1.drew := by
  obtain ⟨h0, h1, h2, h3, h4, h5, h6, h7, h8, hB, hs⟩ := h
  exact ⟨h0, h1, h2, h3, h4, h5, h6, h7, h8, hB.drew, hs⟩
theorem S21.size {w1 : World} (h : S21 W x0 y0 z0 x1 y1 z1 g p q r w1) : Hid (g < w1.heap.size) := by
  obtain ⟨_, _, _, _, _, _, _, _, _, _, hs⟩ := h
  exact hs
theorem S21.alloc {w1 : World} (h : S21 W x0 y0 z0 x1 y1 z1 g p q r w1) (ob : Obj) : S21 W x0 y0 z0 x1 y1 z1 g p q r (w1.alloc ob) := by
  obtain ⟨h0, h1, h2, h3, h4, h5, h6, h7, h8, hB, hs⟩ := h
  exact ⟨cellAlloc h0 ob, cellAlloc h1 ob, cellAlloc h2 ob, cellAlloc h3 ob, cellAlloc h4 ob, cellAlloc h5 ob, cellAlloc h6 ob, cellAlloc h7 ob, cellAlloc h8 ob, belowAlloc hB ob, sizeAlloc hs ob⟩
theorem S21.re {w1 : World} {ob : Obj} (hA : Hid (W.heap.size + 1 < g)) (hm : Hid (g < w1.heap.size)) (h : S21 W x0 y0 z0 x1 y1 z1 g p q r (w1.alloc ob)) (ob' : Obj) : S21 W x0 y0 z0 x1 y1 z1 g p q r (w1.alloc ob') := by
  obtain ⟨h0, h1, h2, h3, h4, h5, h6, h7, h8, hB, hs⟩ := h
  have hm' := hm.out
  have hA' := hA.out; exact ⟨cellRe h0 (by omega), cellRe h1 (by omega), cellRe h2 (by omega), cellRe h3 (by omega), cellRe h4 (by omega), cellRe h5 (by omega), cellRe h6 (by omega), cellRe h7 (by omega), cellRe h8 (by omega), belowRe hB (by omega), sizeAlloc hm' ob'⟩
theorem S21.set {w1 : World} {a b c : Value} {gg : Nat} (hA : Hid (W.heap.size + 1 < g)) (hg : g < gg) (h : S21 W x0 y0 z0 x1 y1 z1 g p q r w1) : S21 W x0 y0 z0 x1 y1 z1 g p q r (((w1.setCell ⟨gg, 0, none⟩ a).setCell ⟨gg, 1, none⟩ b).setCell ⟨gg, 2, none⟩ c) := by
  obtain ⟨h0, h1, h2, h3, h4, h5, h6, h7, h8, hB, hs⟩ := h
  have hA' := hA.out; exact ⟨cellSet (cellSet (cellSet h0 (by omega)) (by omega)) (by omega), cellSet (cellSet (cellSet h1 (by omega)) (by omega)) (by omega), cellSet (cellSet (cellSet h2 (by omega)) (by omega)) (by omega), cellSet (cellSet (cellSet h3 (by omega)) (by omega)) (by omega), cellSet (cellSet (cellSet h4 (by omega)) (by omega)) (by omega), cellSet (cellSet (cellSet h5 (by omega)) (by omega)) (by omega), cellSet (cellSet (cellSet h6 (by omega)) (by omega)) (by omega), cellSet (cellSet (cellSet h7 (by omega)) (by omega)) (by omega), cellSet (cellSet (cellSet h8 (by omega)) (by omega)) (by omega), belowSet (belowSet (belowSet hB (by omega)) (by omega)) (by omega), sizeSet (sizeSet (sizeSet hs))⟩
theorem S21.undrew {w1 : World} (h : S21 W x0 y0 z0 x1 y1 z1 g p q r w1.drew) : S21 W x0 y0 z0 x1 y1 z1 g p q r w1 := by
  obtain ⟨h0, h1, h2, h3, h4, h5, h6, h7, h8, hB, hs⟩ := h
  exact ⟨h0, h1, h2, h3, h4, h5, h6, h7, h8, ⟨hB.os, hB.tape, hB.output, hB.size, hB.block⟩, hs⟩
theorem S21.allocD {w1 : World} (h : S21 W x0 y0 z0 x1 y1 z1 g p q r w1.drew) (ob : Obj) : S21 W x0 y0 z0 x1 y1 z1 g p q r (w1.alloc ob).drew := S21.drew (S21.alloc (w1 := w1) (by
    obtain ⟨h0, h1, h2, h3, h4, h5, h6, h7, h8, hB, hs⟩ := h
    exact ⟨h0, h1, h2, h3, h4, h5, h6, h7, h8, ⟨hB.os, hB.tape, hB.output, hB.size, hB.block⟩, hs⟩) ob)
theorem S21.of {w1 : World} (h : S20 W x0 y0 z0 x1 y1 z1 w1) (c0 : w1.cell? ⟨g, 0, none⟩ = some (.float .f32 p)) (c1 : w1.cell? ⟨g, 1, none⟩ = some (.float .f32 q)) (c2 : w1.cell? ⟨g, 2, none⟩ = some (.float .f32 r)) : S21 W x0 y0 z0 x1 y1 z1 g p q r w1 := by
  obtain ⟨h0, h1, h2, h3, h4, h5, hB, _⟩ := h
  exact ⟨h0, h1, h2, h3, h4, h5, c0, c1, c2, hB, World.block_lt_of_cell? w1 _ c0⟩
end
abbrev S30 (W : World) (x0 y0 z0 x1 y1 z1 x2 y2 z2 : Nat) (w' : World) : Prop := w'.cell? ⟨W.heap.size, 0, none⟩ = some (.float .f32 x0) ∧ w'.cell? ⟨W.heap.size, 1, none⟩ = some (.float .f32 y0) ∧ w'.cell? ⟨W.heap.size, 2, none⟩ = some (.float .f32 z0) ∧ w'.cell? ⟨W.heap.size + 1, 0, none⟩ = some (.float .f32 x1) ∧ w'.cell? ⟨W.heap.size + 1, 1, none⟩ = some (.float .f32 y1) ∧ w'.cell? ⟨W.heap.size + 1, 2, none⟩ = some (.float .f32 z1) ∧ w'.cell? ⟨W.heap.size + 1 + 1, 0, none⟩ = some (.float .f32 x2) ∧ w'.cell? ⟨W.heap.size + 1 + 1, 1, none⟩ = some (.float .f32 y2) ∧ w'.cell? ⟨W.heap.size + 1 + 1, 2, none⟩ = some (.float .f32 z2) ∧ Below W.heap.size W w' ∧ W.heap.size + 1 + 1 < w'.heap.size
def R30 (W : World) (x0 y0 z0 x1 y1 z1 x2 y2 z2 : Nat) (w' : World) : Prop := S30 W x0 y0 z0 x1 y1 z1 x2 y2 z2 w'
section
variable {W : World} {x0 y0 z0 x1 y1 z1 x2 y2 z2 : Nat}
theorem S30.keep {w1 w2 : World} (hb : Below w1.heap.size w1 w2) (h : S30 W x0 y0 z0 x1 y1 z1 x2 y2 z2 w1) : S30 W x0 y0 z0 x1 y1 z1 x2 y2 z2 w2 := by
  obtain ⟨h0, h1, h2, h3, h4, h5, h6, h7, h8, hB, hs⟩ := h
  exact ⟨cellKeep hb h0, cellKeep hb h1, cellKeep hb h2, cellKeep hb h3, cellKeep hb h4, cellKeep hb h5, cellKeep hb h6, cellKeep hb h7, cellKeep hb h8, belowNext hB hb, sizeNext hs hb⟩
theorem S30.drew {w1 : World} (h : S30 W x0 y0 z0 x1 y1 z1 x2 y2 z2 w1) : S30 W x0 y0 z0 x1 y1 z1 x2 y2 z2 w1.drew := by
  obtain ⟨h0, h1, h2, h3, h4, h5, h6, h7, h8, hB, hs⟩ := h
  exact ⟨h0, h1, h2, h3, h4, h5, h6, h7, h8, hB.drew, hs⟩
theorem S30.size {w1 : World} (h : S30 W x0 y0 z0 x1 y1 z1 x2 y2 z2 w1) : Hid (W.heap.size + 1 + 1 < w1.heap.size) := by
  obtain ⟨_, _, _, _, _, _, _, _, _, _, hs⟩ := h
  exact hs
theorem S30.alloc {w1 : World} (h : S30 W x0 y0 z0 x1 y1 z1 x2 y2 z2 w1) (ob : Obj) : S30 W x0 y0 z0 x1 y1 z1 x2 y2 z2 (w1.alloc ob) := by
  obtain ⟨h0, h1, h2, h3, h4, h5, h6, h7, h8, hB, hs⟩ := h
  exact ⟨cellAlloc h0 ob, cellAlloc h1 ob, cellAlloc h2 ob, cellAlloc h3 ob, cellAlloc h4 ob, cellAlloc h5 ob, cellAlloc h6 ob, cellAlloc h7 ob, cellAlloc h8 ob, belowAlloc hB ob, sizeAlloc hs ob⟩
theorem S30.re {w1 : World} {ob : Obj} (hm : Hid (W.heap.size + 1 + 1 < w1.heap.size)) (h : S30 W x0 y0 z0 x1 y1 z1 x2 y2 z2 (w1.alloc ob)) (ob' : Obj) : S30 W x0 y0 z0 x1 y1 z1 x2 y2 z2 (w1.alloc ob') := by
  obtain ⟨h0, h1, h2, h3, h4, h5, h6, h7, h8, hB, hs⟩ := h
  have hm' := hm.out
  exact ⟨cellRe h0 (by omega), cellRe h1 (by omega), cellRe h2 (by omega), cellRe h3 (by omega), cellRe h4 (by omega), cellRe h5 (by omega), cellRe h6 (by omega), cellRe h7 (by omega), cellRe h8 (by omega), belowRe hB (by omega), sizeAlloc hm' ob'⟩
theorem S30.set {w1 : World} {a b c : Value} {gg : Nat} (hg : W.heap.size + 1 + 1 < gg) (h : S30 W x0 y0 z0 x1 y1 z1 x2 y2 z2 w1) : S30 W x0 y0 z0 x1 y1 z1 x2 y2 z2 (((w1.setCell ⟨gg, 0, none⟩ a).setCell ⟨gg, 1, none⟩ b).setCell ⟨gg, 2, none⟩ c) := by
  obtain ⟨h0, h1, h2, h3, h4, h5, h6, h7, h8, hB, hs⟩ := h
  exact ⟨cellSet (cellSet (cellSet h0 (by omega)) (by omega)) (by omega), cellSet (cellSet (cellSet h1 (by omega)) (by omega)) (by omega), cellSet (cellSet (cellSet h2 (by omega)) (by omega)) (by omega), cellSet (cellSet (cellSet h3 (by omega)) (by omega)) (by omega), cellSet (cellSet (cellSet h4 (by omega)) (by omega)) (by omega), cellSet (cellSet (cellSet h5 (by omega)) (by omega)) (by omega), cellSet (cellSet (cellSet h6 (by omega)) (by omega)) (by omega), cellSet (cellSet (cellSet h7 (by omega)) (by omega)) (by omega), cellSet (cellSet (cellSet h8 (by omega)) (by omega)) (by omega), belowSet (belowSet (belowSet hB (by omega)) (by omega)) (by omega), sizeSet (sizeSet (sizeSet hs))⟩
theorem S30.undrew {w1 : World} (h : S30 W x0 y0 z0 x1 y1 z1 x2 y2 z2 w1.drew) : S30 W x0 y0 z0 x1 y1 z1 x2 y2 z2 w1 := by
  obtain ⟨h0, h1, h2, h3, h4, h5, h6, h7, h8, hB, hs⟩ := h
  exact ⟨h0, h1, h2, h3, h4, h5, h6, h7, h8, ⟨hB.os, hB.tape, hB.output, hB.size, hB.block⟩, hs⟩
theorem S30.allocD {w1 : World} (h : S30 W x0 y0 z0 x1 y1 z1 x2 y2 z2 w1.drew) (ob : Obj) : S30 W x0 y0 z0 x1 y1 z1 x2 y2 z2 (w1.alloc ob).drew := S30.drew (S30.alloc (w1 := w1) (by
    obtain ⟨h0, h1, h2, h3, h4, h5, h6, h7, h8, hB, hs⟩ := h
    exact ⟨h0, h1, h2, h3, h4, h5, h6, h7, h8, ⟨hB.os, hB.tape, hB.output, hB.size, hB.block⟩, hs⟩) ob)
theorem S30.start (T : TypeId) : S30 W x0 y0 z0 x1 y1 z1 x2 y2 z2 (((W.alloc (.cells #[.float .f32 x0, .float .f32 y0, .float .f32 z0] T)).alloc (.cells #[.float .f32 x1, .float .f32 y1, .float .f32 z1] T)).alloc (.cells #[.float .f32 x2, .float .f32 y2, .float .f32 z2] T)).drew := by
  refine ⟨?_, ?_, ?_, ?_, ?_, ?_, ?_, ?_, ?_, ?_, ?_⟩
  all_goals first | (simp; done) | (rw [World.cell?_drew]; exact cellAlloc (by simp) _) | (rw [World.cell?_drew]; exact cellAlloc (cellAlloc (by simp) _) _) | (rw [World.cell?_drew, show W.heap.size + 1 + 1 = ((W.alloc (.cells #[.float .f32 x0, .float .f32 y0, .float .f32 z0] T)).alloc (.cells #[.float .f32 x1, .float .f32 y1, .float .f32 z1] T)).heap.size from by simp, World.cell?_alloc_new]; rfl) | skip
  refine Below.drew ?_
  (repeat' (first | with_reducible exact Below.refl _ _ | with_reducible assumption | with_reducible exact belowNext (by assumption) (by assumption) | with_reducible exact belowAlloc (by assumption) _ | refine below_drewN ?_ _ | refine Below.alloc ?_ (by first | exact Nat.le_refl _ | (simp <;> omega)) _ | refine Below.setCell ?_ (by first | exact Nat.le_refl _ | (simp <;> omega)) _ | refine Below.trans ?_ (Below.mono (by assumption) (by first | exact Nat.le_refl _ | (simp <;> omega)))))
end
abbrev S31 (W : World) (x0 y0 z0 x1 y1 z1 x2 y2 z2 g p q r : Nat) (w' : World) : Prop := w'.cell? ⟨W.heap.size, 0, none⟩ = some (.float .f32 x0) ∧ w'.cell? ⟨W.heap.size, 1, none⟩ = some (.float .f32 y0) ∧ w'.cell? ⟨W.heap.size, 2, none⟩ = some (.float .f32 z0) ∧ w'.cell? ⟨W.heap.size + 1, 0, none⟩ = some (.float .f32 x1) ∧ w'.cell? ⟨W.heap.size + 1, 1, none⟩ = some (.float .f32 y1) ∧ w'.cell? ⟨W.heap.size + 1, 2, none⟩ = some (.float .f32 z1) ∧ w'.cell? ⟨W.heap.size + 1 + 1, 0, none⟩ = some (.float .f32 x2) ∧ w'.cell? ⟨W.heap.size + 1 + 1, 1, none⟩ = some (.float .f32 y2) ∧ w'.cell? ⟨W.heap.size + 1 + 1, 2, none⟩ = some (.float .f32 z2) ∧ w'.cell? ⟨g, 0, none⟩ = some (.float .f32 p) ∧ w'.cell? ⟨g, 1, none⟩ = some (.float .f32 q) ∧ w'.cell? ⟨g, 2, none⟩ = some (.float .f32 r) ∧ Below W.heap.size W w' ∧ g < w'.heap.size
def R31 (W : World) (x0 y0 z0 x1 y1 z1 x2 y2 z2 g p q r : Nat) (w' : World) : Prop := S31 W x0 y0 z0 x1 y1 z1 x2 y2 z2 g p q r w'
section
variable {W : World} {x0 y0 z0 x1 y1 z1 x2 y2 z2 g p q r : Nat}
theorem S31.keep {w1 w2 : World} (hb : Below w1.heap.size w1 w2) (h : S31 W x0 y0 z0 x1 y1 z1 x2 y2 z2 g p q r w1) : S31 W x0 y0 z0 x1 y1 z1 x2 y2 z2 g p q r w2 := by
  obtain ⟨h0, h1, h2, h3, h4, h5, h6, h7, h8, h9, h10, h11, hB, hs⟩ := h
  exact ⟨cellKeep hb h0, cellKeep hb h1, cellKeep hb h2, cellKeep hb h3, cellKeep hb h4, cellKeep hb h5, cellKeep hb h6, cellKeep hb h7, cellKeep hb h8, cellKeep hb h9, cellKeep hb h10, cellKeep hb h11, belowNext hB hb, sizeNext hs hb⟩
theorem S31.drew {w1 : World} (h : S31 W x0 y0 z0 x1 y1 z1 x2 y2 z2 g p q r w1) : S31 W x0 y0 z0 x1 y1 z1 x2 y2 z2 g p q r w1.drew := by
  obtain ⟨h0, h1, h2, h3, h4, h5, h6, h7, h8, h9, h10, h11, hB, hs⟩ := h
  exact ⟨h0, h1, h2, h3, h4, h5, h6, h7, h8, h9, h10, h11, hB.drew, hs⟩
theorem S31.size {w1 : World} (h : S31 W x0 y0 z0 x1 y1 z1 x2 y2 z2 g p q r w1) : Hid (g < w1.heap.size) := by
  obtain ⟨_, _, _, _, _, _, _, _, _, _, _, _, _, hs⟩ := h
  exact hs
theorem S31.alloc {w1 : World} (h : S31 W x0 y0 z0 x1 y1 z1 x2 y2 z2 g p q r w1) (ob : Obj) : S31 W x0 y0 z0 x1 y1 z1 x2 y2 z2 g p q r (w1.alloc ob) := by
  obtain ⟨h0, h1, h2, h3, h4, h5, h6, h7, h8, h9, h10, h11, hB, hs⟩ := h
  exact ⟨cellAlloc h0 ob, cellAlloc h1 ob, cellAlloc h2 ob, cellAlloc h3 ob, cellAlloc h4 ob, cellAlloc h5 ob, cellAlloc h6 ob, cellAlloc h7 ob, cellAlloc h8 ob, cellAlloc h9 ob, cellAlloc h10 ob, cellAlloc h11 ob, belowAlloc hB ob, sizeAlloc hs ob⟩
theorem S31.re {w1 : World} {ob : Obj} (hA : Hid (W.heap.size + 1 + 1 < g)) (hm : Hid (g < w1.heap.size)) (h : S31 W x0 y0 z0 x1 y1 z1 x2 y2 z2 g p q r (w1.alloc ob)) (ob' : Obj) : S31 W x0 y0 z0 x1 y1 z1 x2 y2 z2 g p q r (w1.alloc ob') := by
  obtain ⟨h0, h1, h2, h3, h4, h5, h6, h7, h8, h9, h10, h11, hB, hs⟩ := h
  have hm' := hm.out
  have hA' := hA.out; exact ⟨cellRe h0 (by omega), cellRe h1 (by omega), cellRe h2 (by omega), cellRe h3 (by omega), cellRe h4 (by omega), cellRe h5 (by omega), cellRe h6 (by omega), cellRe h7 (by omega), cellRe h8 (by omega), cellRe h9 (by omega), cellRe h10 (by omega), cellRe h11 (by omega), belowRe hB (by omega), sizeAlloc hm' ob'⟩
theorem S31.set {w1 : World} {a b c : Value} {gg : Nat} (hA : Hid (W.heap.size + 1 + 1 < g)) (hg : g < gg) (h : S31 W x0 y0 z0 x1 y1 z1 x2 y2 z2 g p q r w1) : S31 W x0 y0 z0 x1 y1 z1 x2 y2 z2 g p q r (((w1.setCell ⟨gg, 0, none⟩ a).setCell ⟨gg, 1, none⟩ b).setCell ⟨gg, 2, none⟩ c) := by
  obtain ⟨h0, h1, h2, h3, h4, h5, h6, h7, h8, h9, h10, h11, hB, hs⟩ := h
  have hA' := hA.out; exact ⟨cellSet (cellSet (cellSet h0 (by omega)) (by omega)) (by omega), cellSet (cellSet (cellSet h1 (by omega)) (by omega)) (by omega), cellSet (cellSet (cellSet h2 (by omega)) (by omega)) (by omega), cellSet (cellSet (cellSet h3 (by omega)) (by omega)) (by omega), cellSet (cellSet (cellSet h4 (by omega)) (by omega)) (by omega), cellSet (cellSet (cellSet h5 (by omega)) (by omega)) (by omega), cellSet (cellSet (cellSet h6 (by omega)) (by omega)) (by omega), cellSet (cellSet (cellSet h7 (by omega)) (by omega)) (by omega), cellSet (cellSet (cellSet h8 (by omega)) (by omega)) (by omega), cellSet (cellSet (cellSet h9 (by omega)) (by omega)) (by omega), cellSet (cellSet (cellSet h10 (by omega)) (by omega)) (by omega), cellSet (cellSet (cellSet h11 (by omega)) (by omega)) (by omega), belowSet (belowSet (belowSet hB (by omega)) (by omega)) (by omega), sizeSet (sizeSet (sizeSet hs))⟩
theorem S31.undrew {w1 : World} (h : S31 W x0 y0 z0 x1 y1 z1 x2 y2 z2 g p q r w1.drew) : S31 W x0 y0 z0 x1 y1 z1 x2 y2 z2 g p q r w1 := by
  obtain ⟨h0, h1, h2, h3, h4, h5, h6, h7, h8, h9, h10, h11, hB, hs⟩ := h
  exact ⟨h0, h1, h2, h3, h4, h5, h6, h7, h8, h9, h10, h11, ⟨hB.os, hB.tape, hB.output, hB.size, hB.block⟩, hs⟩
theorem S31.allocD {w1 : World} (h : S31 W x0 y0 z0 x1 y1 z1 x2 y2 z2 g p q r w1.drew) (ob : Obj) : S31 W x0 y0 z0 x1 y1 z1 x2 y2 z2 g p q r (w1.alloc ob).drew := S31.drew (S31.alloc (w1 := w1) (by
    obtain ⟨h0, h1, h2, h3, h4, h5, h6, h7, h8, h9, h10, h11, hB, hs⟩ := h
    exact ⟨h0, h1, h2, h3, h4, h5, h6, h7, h8, h9, h10, h11, ⟨hB.os, hB.tape, hB.output, hB.size, hB.block⟩, hs⟩) ob)
theorem S31.of {w1 : World} (h : S30 W x0 y0 z0 x1 y1 z1 x2 y2 z2 w1) (c0 : w1.cell? ⟨g, 0, none⟩ = some (.float .f32 p)) (c1 : w1.cell? ⟨g, 1, none⟩ = some (.float .f32 q)) (c2 : w1.cell? ⟨g, 2, none⟩ = some (.float .f32 r)) : S31 W x0 y0 z0 x1 y1 z1 x2 y2 z2 g p q r w1 := by
  obtain ⟨h0, h1, h2, h3, h4, h5, h6, h7, h8, hB, _⟩ := h
  exact ⟨h0, h1, h2, h3, h4, h5, h6, h7, h8, c0, c1, c2, hB, World.block_lt_of_cell? w1 _ c0⟩
end
end Go.Proofs.Ytcmmafkmfahijaa
