/- What a law of a wire holds on to: the argument, its copy, the two results. Conditions: none. -/
import Derived.Test.YtfcniebfoboogaaMark
namespace Go.Proofs.Ytfcniebfoboogaa
open Go.RowKit

/-- The argument's points, in blocks below N. -/
def PtsB (a : Option Addr) (n : Nat) (P : Nat → Nat) (N : Nat) (w : World) : Prop := n = 0 ∨ ∃ b o, a = some ⟨b, o, none⟩ ∧ VS w b o n P ∧ b < N
section
variable {a p0 p1 : Option Addr} {n N M C X bx NN CU c0 B0 b0 c1 B1 b1 c cu : Nat} {P Q R R1 : Nat → Nat} {w w' W : World} {cl CL : Bool}
theorem PtsB.of (h : PtsA w a n P) : PtsB a n P w.heap.size w := by
  rcases h with h | ⟨b, o, h, v, l⟩
  · exact .inl h
  · exact .inr ⟨b, o, h, v, l⟩
theorem PtsB.keep (hb : Below w.heap.size w w') (h : PtsB a n P N w) : PtsB a n P N w' := by
  rcases h with h | ⟨b, o, h, v, l⟩
  · exact .inl h
  · exact .inr ⟨b, o, h, VS.keep hb v, l⟩
theorem PtsB.aside (hb : Aside C w w') (h : PtsB a n P N w) (hC : N ≤ C) : PtsB a n P N w' := by
  rcases h with h | ⟨b, o, h, v, l⟩
  · exact .inl h
  · exact .inr ⟨b, o, h, fun i hi => hb.cell (v i hi) (by omega), l⟩
theorem PtsB.pts (h : PtsB a n P N w) (hN : N ≤ w.heap.size) : PtsA w a n P := by
  rcases h with h | ⟨b, o, h, v, l⟩
  · exact .inl h
  · exact .inr ⟨b, o, h, v, by omega⟩
theorem LG.aside (hb : Aside C w w') (h : LG W NN CL CU R R1 p0 c0 B0 b0 p1 c1 B1 b1 w) (h1 : W.heap.size ≤ C) (h2 : C ≠ b0) (h3 : C ≠ b1) (h4 : C ≠ B0) (h5 : C ≠ B1) : LG W NN CL CU R R1 p0 c0 B0 b0 p1 c1 B1 b1 w' := by
  obtain ⟨g0, g1, g2, g3, g4, g5, g6, g7, g8⟩ := h
  exact ⟨g0.aside hb (Ne.symm h2), g1.aside hb (Ne.symm h3), g2.aside hb (Ne.symm h4), g3.aside hb (Ne.symm h5), Aside.below g4 hb h1 g4.size, g5, g6, g7, g8⟩
/-- The argument in its box, its points; the copy in its box, its points. -/
def LA (W : World) (a : Option Addr) (n c cu : Nat) (cl : Bool) (P Q : Nat → Nat) (X bx : Nat) (w : World) : Prop :=
  Box3 W.heap.size a n c cl cu w ∧ PtsB a n P W.heap.size w ∧ Box3 bx (some ⟨X, 0, none⟩) n n cl cu w ∧ WRow X n Q w ∧ W.heap.size < X ∧ X < bx ∧ W.heap.size ≤ w.heap.size
theorem LA.keep (hb : Below w.heap.size w w') (h : LA W a n c cu cl P Q X bx w) : LA W a n c cu cl P Q X bx w' := by
  obtain ⟨h0, h1, h2, h3, h4, h5, h6⟩ := h
  exact ⟨h0.keep hb, h1.keep hb, h2.keep hb, h3.keep hb, h4, h5, Nat.le_trans h6 hb.size⟩
theorem LA.aside (hb : Aside C w w') (h : LA W a n c cu cl P Q X bx w) (h1 : bx < C) : LA W a n c cu cl P Q X bx w' := by
  obtain ⟨g0, g1, g2, g3, g4, g5, g6⟩ := h
  exact ⟨g0.aside hb (by omega), g1.aside hb (by omega), g2.aside hb (by omega), g3.aside hb (by omega), g4, g5, Nat.le_trans g6 hb.size⟩
theorem LA.marked (hb : Aside X w w') (hr : WRow X n (markP 1) w') (h : LA W a n c cu cl P Q X bx w) : LA W a n c cu cl P (markP 1) X bx w' := by
  obtain ⟨g0, g1, g2, g3, g4, g5, g6⟩ := h
  exact ⟨g0.aside hb (by omega), g1.aside hb (by omega), g2.aside hb (by omega), hr, g4, g5, Nat.le_trans g6 hb.size⟩
theorem LA.pts (h : LA W a n c cu cl P Q X bx w) : PtsA w a n P := h.2.1.pts h.2.2.2.2.2.2
/-- All of it; the blocks lie in this order. -/
def LM (W : World) (a : Option Addr) (n c cu : Nat) (cl : Bool) (P Q : Nat → Nat) (X bx NN : Nat) (CL : Bool) (CU : Nat) (R R1 : Nat → Nat) (p0 : Option Addr) (c0 B0 b0 : Nat) (p1 : Option Addr) (c1 B1 b1 : Nat) (w : World) : Prop :=
  LA W a n c cu cl P Q X bx w ∧ LG W NN CL CU R R1 p0 c0 B0 b0 p1 c1 B1 b1 w ∧ b0 < X ∧ bx < B1
theorem LM.keep (hb : Below w.heap.size w w') (h : LM W a n c cu cl P Q X bx NN CL CU R R1 p0 c0 B0 b0 p1 c1 B1 b1 w) : LM W a n c cu cl P Q X bx NN CL CU R R1 p0 c0 B0 b0 p1 c1 B1 b1 w' :=
  ⟨h.1.keep hb, h.2.1.keep hb, h.2.2⟩
theorem LM.drew (h : LM W a n c cu cl P Q X bx NN CL CU R R1 p0 c0 B0 b0 p1 c1 B1 b1 w) : LM W a n c cu cl P Q X bx NN CL CU R R1 p0 c0 B0 b0 p1 c1 B1 b1 w.drew :=
  h.keep (Below.drew (Below.refl _ _))
theorem LM.markX (hb : Aside X w w') (hr : WRow X n (markP 1) w') (h : LM W a n c cu cl P Q X bx NN CL CU R R1 p0 c0 B0 b0 p1 c1 B1 b1 w) : LM W a n c cu cl P (markP 1) X bx NN CL CU R R1 p0 c0 B0 b0 p1 c1 B1 b1 w' := by
  obtain ⟨h0, h1, h2, h3⟩ := h
  have g1 := h0.2.2.2.2.1
  have g2 := h0.2.2.2.2.2.1
  have g3 := h1.2.2.2.2.2.2.1
  have g4 := h1.2.2.2.2.2.2.2.1
  have g5 := h1.2.2.2.2.2.2.2.2
  exact ⟨h0.marked hb hr, LG.aside hb h1 (by omega) (by omega) (by omega) (by omega) (by omega), h2, h3⟩
theorem LM.markG (hb : Aside B1 w w') (hr : ResP p1 NN (markP 1) B1 w') (h : LM W a n c cu cl P Q X bx NN CL CU R R1 p0 c0 B0 b0 p1 c1 B1 b1 w) : LM W a n c cu cl P Q X bx NN CL CU R (markP 1) p0 c0 B0 b0 p1 c1 B1 b1 w' :=
  ⟨h.1.aside hb h.2.2.2, LG.marked hb hr h.2.1, h.2.2⟩
end
/-- Behind the reference's result and the copy. -/
def LB (W : World) (a : Option Addr) (n c cu : Nat) (cl : Bool) (P : Nat → Nat) (NN : Nat) (CL : Bool) (CU : Nat) (R : Nat → Nat) (p0 : Option Addr) (c0 B0 b0 X : Nat) (w : World) : Prop :=
  Box3 W.heap.size a n c cl cu w ∧ PtsB a n P W.heap.size w ∧ Box3 b0 p0 NN c0 CL CU w ∧ ResP p0 NN R B0 w ∧ WRow X n P w ∧ Below W.heap.size W w ∧ W.heap.size < B0 ∧ B0 < b0 ∧ b0 < X
section
variable {W w w1 w2 w3 : World} {a p0 p1 : Option Addr} {n c cu X NN CU c0 B0 b0 c1 B1 : Nat} {cl CL : Bool} {P R R1 : Nat → Nat} {t : TypeId}
theorem LB.keep (hb : Below w.heap.size w w1) (h : LB W a n c cu cl P NN CL CU R p0 c0 B0 b0 X w) : LB W a n c cu cl P NN CL CU R p0 c0 B0 b0 X w1 := by
  obtain ⟨h0, h1, h2, h3, h4, h5, h6⟩ := h
  exact ⟨h0.keep hb, h1.keep hb, h2.keep hb, h3.keep hb, h4.keep hb, belowNext h5 hb, h6⟩
theorem LB.start {t u : TypeId} (k : Box3 W.heap.size a n c cl cu w1) (hp : PtsB a n P W.heap.size w1) (hl : W.heap.size < B0) (r0 : ResP p0 NN R B0 w1) (m0 : B0 < w1.heap.size) (bw : Below W.heap.size W w1)
    (bel : Below (w1.alloc (.cells #[.slice p0 NN c0, .bool CL, .float .f32 CU] t)).heap.size (w1.alloc (.cells #[.slice p0 NN c0, .bool CL, .float .f32 CU] t)) w2)
    (row : w2.rowIs X 49 (n * 3) (fun i => .float .f32 (P i))) (lX : (w1.alloc (.cells #[.slice p0 NN c0, .bool CL, .float .f32 CU] u)).heap.size ≤ X) : LB W a n c cu cl P NN CL CU R p0 c0 B0 w1.heap.size X w2 := by
  have al : ∀ w : World, ∀ o, Below w.heap.size w (w.alloc o) := fun w o => belowAlloc (Below.refl _ _) _
  simp only [World.size_alloc] at lX
  exact ⟨(k.keep (al _ _)).keep bel, (hp.keep (al _ _)).keep bel, Box3.new bel, (r0.keep (al _ _)).keep bel, WRow.row row, belowNext (belowAlloc bw _) bel, hl, m0, by omega⟩
theorem LM.start {t u : TypeId} (h : LB W a n c cu cl P NN CL CU R p0 c0 B0 b0 X w1)
    (bel : Below (w1.alloc (.cells #[.slice (some ⟨X, 0, none⟩) n n, .bool cl, .float .f32 cu] t)).heap.size (w1.alloc (.cells #[.slice (some ⟨X, 0, none⟩) n n, .bool cl, .float .f32 cu] t)) w2)
    (r1 : ResP p1 NN R1 B1 w2) (l1 : (w1.alloc (.cells #[.slice (some ⟨X, 0, none⟩) n n, .bool cl, .float .f32 cu] t)).heap.size ≤ B1) (m1 : B1 < w2.heap.size)
    (bel2 : Below (w2.alloc (.cells #[.slice p1 NN c1, .bool CL, .float .f32 CU] u)).heap.size (w2.alloc (.cells #[.slice p1 NN c1, .bool CL, .float .f32 CU] u)) w3) : LM W a n c cu cl P P X w1.heap.size NN CL CU R R1 p0 c0 B0 b0 p1 c1 B1 w2.heap.size w3 := by
  have al : ∀ w : World, ∀ o, Below w.heap.size w (w.alloc o) := fun w o => belowAlloc (Below.refl _ _) _
  obtain ⟨h0, h1, h2, h3, h4, h5, h6, h7, h8⟩ := h
  simp only [World.size_alloc] at l1
  have lx := h4.lt
  have e1 : Below w1.heap.size w1 w2 := belowNext (al _ _) bel
  have e2 : Below w2.heap.size w2 w3 := belowNext (al _ _) bel2
  refine ⟨⟨(h0.keep e1).keep e2, (h1.keep e1).keep e2, (Box3.new bel).keep e2, (h4.keep e1).keep e2, by omega, lx, ?_⟩, ⟨(h2.keep e1).keep e2, Box3.new bel2, (h3.keep e1).keep e2, r1.keep e2, belowNext (belowNext h5 e1) e2, by omega, h7, by omega, m1⟩, h8, by omega⟩
  exact (belowNext (belowNext h5 e1) e2).size
end
theorem ResP.whole {X n B : Nat} {Q : Nat → Nat} {w : World} (h : ResP (some ⟨X, 0, none⟩) n Q B w) : WRow B n Q w := by
  rcases h with ⟨_, h⟩ | ⟨_, h⟩
  · cases h
  · exact h
/-- What the comparison of the copy with the argument holds on to. -/
abbrev LS (W : World) (a : Option Addr) (n c cu : Nat) (cl : Bool) (P Q : Nat → Nat) (X bx NN : Nat) (CL : Bool) (CU : Nat) (R R1 : Nat → Nat) (p0 : Option Addr) (c0 B0 b0 : Nat) (p1 : Option Addr) (c1 B1 b1 : Nat) (w : World) : Prop :=
  w.cell? ⟨W.heap.size, 0, none⟩ = some (.slice a n c) ∧ w.cell? ⟨W.heap.size, 1, none⟩ = some (.bool cl) ∧ w.cell? ⟨W.heap.size, 2, none⟩ = some (.float .f32 cu) ∧
  w.cell? ⟨bx, 0, none⟩ = some (.slice (some ⟨X, 0, none⟩) n n) ∧ w.cell? ⟨bx, 1, none⟩ = some (.bool cl) ∧ w.cell? ⟨bx, 2, none⟩ = some (.float .f32 cu) ∧
  LM W a n c cu cl P Q X bx NN CL CU R R1 p0 c0 B0 b0 p1 c1 B1 b1 w
section
variable {a p0 p1 : Option Addr} {n X bx NN CU c0 B0 b0 c1 B1 b1 c cu Z : Nat} {P Q R R1 : Nat → Nat} {w w' W : World} {cl CL : Bool}
theorem LM.shown (h : LM W a n c cu cl P Q X bx NN CL CU R R1 p0 c0 B0 b0 p1 c1 B1 b1 w) : LS W a n c cu cl P Q X bx NN CL CU R R1 p0 c0 B0 b0 p1 c1 B1 b1 w := ⟨h.1.1.1, h.1.1.2.1, h.1.1.2.2, h.1.2.2.1.1, h.1.2.2.1.2.1, h.1.2.2.1.2.2, h⟩
theorem LS.whole (h : LS W a n c cu cl P Q X bx NN CL CU R R1 p0 c0 B0 b0 p1 c1 B1 b1 w) : LM W a n c cu cl P Q X bx NN CL CU R R1 p0 c0 B0 b0 p1 c1 B1 b1 w := h.2.2.2.2.2.2
theorem LS.keep (hb : Below w.heap.size w w') (h : LS W a n c cu cl P Q X bx NN CL CU R R1 p0 c0 B0 b0 p1 c1 B1 b1 w) : LS W a n c cu cl P Q X bx NN CL CU R R1 p0 c0 B0 b0 p1 c1 B1 b1 w' := (h.whole.keep hb).shown
theorem LS.drew (h : LS W a n c cu cl P Q X bx NN CL CU R R1 p0 c0 B0 b0 p1 c1 B1 b1 w) : LS W a n c cu cl P Q X bx NN CL CU R R1 p0 c0 B0 b0 p1 c1 B1 b1 w.drew := h.whole.drew.shown
theorem LM.eqCopy (hn : n ≤ 1048576) (h : LM W a n c cu cl P P X bx NN CL CU R R1 p0 c0 B0 b0 p1 c1 B1 b1 w) (hZ : Hid (NewP Z n P w)) :
    Calls Try.prog 19 #[wireV (.slice (some ⟨X, 0, none⟩) n n) cl cu, wireV (.slice (some ⟨Z, 0, none⟩) n n) cl cu] w (BoolIs true w) :=
  laws_eqWireA _ _ _ _ n cu cl P hn w (.inr ⟨X, 0, rfl, h.1.2.2.2.1.vs, h.1.2.2.2.1.lt⟩) (.inr ⟨Z, 0, rfl, hZ.out.1, hZ.out.2⟩)
end
end Go.Proofs.Ytfcniebfoboogaa
