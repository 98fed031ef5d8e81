/- What the law of a wire and a vector holds on to: the arguments, the copy, the two results; a result's box may be made ahead of its points. Conditions: none. -/
import Derived.Test.YtfcniebfoboogaaLoc
import Derived.Test.YtfcniebfoboogaaSq
namespace Go.Proofs.Ytfcniebfoboogaa
open Go.RowKit

/-- A vector in a box. -/
def BoxV (g x y z : Nat) (w : World) : Prop := w.cell? ⟨g, 0, none⟩ = some (.float .f32 x) ∧ w.cell? ⟨g, 1, none⟩ = some (.float .f32 y) ∧ w.cell? ⟨g, 2, none⟩ = some (.float .f32 z)
section
variable {a p0 p1 : Option Addr} {n X bx NN CU c0 B0 b0 c1 B1 b1 c cu C g x y z lo N m : Nat} {P Q R R1 : Nat → Nat} {w w' W : World} {cl CL FL : Bool} {s t : Value}
theorem BoxV.aside (hb : Aside C w w') (h : BoxV g x y z w) (hn : g ≠ C) : BoxV g x y z w' := ⟨hb.cell h.1 hn, hb.cell h.2.1 hn, hb.cell h.2.2 hn⟩
theorem BoxV.keep (hb : Below w.heap.size w w') (h : BoxV g x y z w) : BoxV g x y z w' := ⟨cellKeep hb h.1, cellKeep hb h.2.1, cellKeep hb h.2.2⟩
theorem Loc.boxV (g x y z : Nat) : Loc g (BoxV g x y z) := Loc.both (Loc.cell g 0 _) (Loc.both (Loc.cell g 1 _) (Loc.cell g 2 _) (Nat.le_refl _)) (Nat.le_refl _)
theorem VS.blocks {b o n : Nat} {P : Nat → Nat} {w w' : World} (h : VS w b o n P) (e : w'.heap[b]? = w.heap[b]?) : VS w' b o n P := fun i hi => (World.cell?_of_block (w := w) (a := ⟨b, o + i, none⟩) e).trans (h i hi)
theorem PtsB.blocks (h : PtsB a n P N w) (e : ∀ k, k < N → w'.heap[k]? = w.heap[k]?) : PtsB a n P N w' := by
  rcases h with h | ⟨b, o, h, v, l⟩
  · exact .inl h
  · exact .inr ⟨b, o, h, VS.blocks v (e b l), l⟩
theorem ResP.blocks {B : Nat} (h : ResP a n P B w) (e : w'.heap[B]? = w.heap[B]?) : ResP a n P B w' := by
  rcases h with h | ⟨h, g⟩
  · exact .inl h
  · exact .inr ⟨h, g.ofBlock e⟩
theorem Below.blocks (h : Below N W w) (h0 : w'.os = w.os) (h1 : w'.tape = w.tape) (h2 : w'.output = w.output) (hs : W.heap.size ≤ w'.heap.size) (e : ∀ k, k < N → w'.heap[k]? = w.heap[k]?) : Below N W w' :=
  ⟨h0.trans h.os, h1.trans h.tape, h2.trans h.output, hs, fun k hk => (e k hk).trans (h.block k hk)⟩
/-- Both arguments in their boxes. -/
def ArgsV (W : World) (a : Option Addr) (n c cu : Nat) (cl : Bool) (P : Nat → Nat) (x y z : Nat) (w : World) : Prop :=
  Box3 W.heap.size a n c cl cu w ∧ BoxV (W.heap.size + 1) x y z w ∧ PtsB a n P W.heap.size w ∧ Below W.heap.size W w
theorem ArgsV.loc : Loc (W.heap.size + 1) (ArgsV W a n c cu cl P x y z) := by
  refine ⟨fun w h => World.block_lt_of_cell? w _ h.2.1.1, ?_⟩
  intro w w' ⟨h0, h1, h2, h3⟩ e0 e1 e2 hs e
  have l := World.block_lt_of_cell? w _ h1.1
  refine ⟨(Loc.box3 _ _ _ _ _ _).2 w w' h0 e0 e1 e2 (by omega) fun k hk => e k (by omega), (Loc.boxV _ _ _ _).2 w w' h1 e0 e1 e2 hs e, h2.blocks fun k hk => e k (by omega), Below.blocks h3 e0 e1 e2 (by omega) fun k hk => e k (by omega)⟩
theorem ArgsV.aside (hb : Aside C w w') (h : ArgsV W a n c cu cl P x y z w) (hC : W.heap.size + 1 < C) : ArgsV W a n c cu cl P x y z w' := Loc.aside (Lib.hid ArgsV.loc) hb h hC
theorem ArgsV.pts (h : ArgsV W a n c cu cl P x y z w) : PtsA w a n P := h.2.2.1.pts (by have := World.block_lt_of_cell? w _ h.2.1.1; have e : (⟨W.heap.size + 1, 0, none⟩ : Addr).block = W.heap.size + 1 := rfl; omega)
/-- A result in a box: s points to it, t is its flag. -/
def ResV (lo NN : Nat) (CL : Bool) (CU : Nat) (FL : Bool) (R : Nat → Nat) (s t : Value) (w : World) : Prop :=
  ∃ p0 c0 B0 b0, s = .pointer (some ⟨b0, 0, none⟩) ∧ t = .bool FL ∧ Box3 b0 p0 NN c0 CL CU w ∧ ResP p0 NN R B0 w ∧ B0 ≠ b0 ∧ lo < B0 ∧ lo < b0 ∧ B0 < w.heap.size
theorem ResV.new {u : TypeId} (hr : ResP p0 NN R B0 w) (h1 : lo < B0) (h2 : B0 < w.heap.size) : ResV lo NN CL CU FL R (.pointer (some ⟨w.heap.size, 0, none⟩)) (.bool FL) (w.alloc (.cells #[.slice p0 NN c0, .bool CL, .float .f32 CU] u)) :=
  ⟨p0, c0, B0, w.heap.size, rfl, rfl, Box3.new (Below.refl _ _), hr.keep (belowAlloc (Below.refl _ _) _), by omega, h1, by omega, by simp; omega⟩
theorem ResV.set {a' b' c' : Value} (hn : w.cell? ⟨g, 0, none⟩ = some a' ∧ w.cell? ⟨g, 1, none⟩ = some b' ∧ w.cell? ⟨g, 2, none⟩ = some c' ∧ w.frozen? ⟨g, 0, none⟩ = false ∧ w.frozen? ⟨g, 1, none⟩ = false ∧ w.frozen? ⟨g, 2, none⟩ = false)
    (hr : ResP p0 NN R B0 w) (h1 : lo < B0) (h2 : B0 < w.heap.size) (hg : lo < g) (hne : B0 ≠ g) :
    ResV lo NN CL CU FL R (.pointer (some ⟨g, 0, none⟩)) (.bool FL) (((w.setCell ⟨g, 0, none⟩ (.slice p0 NN c0)).setCell ⟨g, 1, none⟩ (.bool CL)).setCell ⟨g, 2, none⟩ (.float .f32 CU)) := by
  obtain ⟨t0, t1, t2⟩ := setThree (a := .slice p0 NN c0) (b := .bool CL) (c := .float .f32 CU) hn.1 hn.2.1 hn.2.2.1
  refine ⟨p0, c0, B0, g, rfl, rfl, ⟨t0, t1, t2⟩, ?_, hne, h1, hg, by simpa using h2⟩
  rcases hr with hr | ⟨e, r⟩
  · exact .inl hr
  · exact .inr ⟨e, ((r.setOther hne).setOther hne).setOther hne⟩
/-- The arguments, the reference's result, the copy. -/
def M0 (W : World) (a : Option Addr) (n c cu : Nat) (cl : Bool) (P : Nat → Nat) (x y z NN : Nat) (CL : Bool) (CU : Nat) (R : Nat → Nat) (p0 : Option Addr) (c0 B0 b0 : Nat) (Q : Nat → Nat) (X bx : Nat) (w : World) : Prop :=
  ArgsV W a n c cu cl P x y z w ∧ Box3 b0 p0 NN c0 CL CU w ∧ ResP p0 NN R B0 w ∧ Box3 bx (some ⟨X, 0, none⟩) n n cl cu w ∧ WRow X n Q w
/-- The order of these blocks. -/
def Ord0 (W : World) (B0 b0 X bx : Nat) : Prop := W.heap.size + 1 < B0 ∧ W.heap.size + 1 < b0 ∧ B0 < X ∧ b0 < X ∧ X < bx
theorem M0.loc (o : Ord0 W B0 b0 X bx) : Loc bx (M0 W a n c cu cl P x y z NN CL CU R p0 c0 B0 b0 Q X bx) := by
  obtain ⟨o0, o1, o2, o3, o4⟩ := o
  refine ⟨fun w h => World.block_lt_of_cell? w _ h.2.2.2.1.1, ?_⟩
  intro w w' ⟨h0, h1, h2, h3, h4⟩ e0 e1 e2 hs e
  exact ⟨ArgsV.loc.2 w w' h0 e0 e1 e2 (by omega) fun k hk => e k (by omega), (Loc.box3 _ _ _ _ _ _).2 w w' h1 e0 e1 e2 (by omega) fun k hk => e k (by omega), h2.blocks (e _ (by omega)), (Loc.box3 _ _ _ _ _ _).2 w w' h3 e0 e1 e2 hs e, h4.ofBlock (e _ (by omega))⟩
theorem M0.aside (hb : Aside C w w') (o : Ord0 W B0 b0 X bx) (h : M0 W a n c cu cl P x y z NN CL CU R p0 c0 B0 b0 Q X bx w) (hC : bx < C) : M0 W a n c cu cl P x y z NN CL CU R p0 c0 B0 b0 Q X bx w' := Loc.aside (Lib.hid (M0.loc o)) hb h hC
theorem M0.mark (hb : Aside X w w') (o : Ord0 W B0 b0 X bx) (hr : WRow X n Q w') (h : M0 W a n c cu cl P x y z NN CL CU R p0 c0 B0 b0 R1 X bx w) : M0 W a n c cu cl P x y z NN CL CU R p0 c0 B0 b0 Q X bx w' := by
  obtain ⟨h0, h1, h2, h3, h4⟩ := h
  obtain ⟨o0, o1, o2, o3, o4⟩ := o
  exact ⟨h0.aside hb (by omega), h1.aside hb (by omega), h2.aside hb (by omega), h3.aside hb (by omega), hr⟩
/-- All of it. -/
def M1 (W : World) (a : Option Addr) (n c cu : Nat) (cl : Bool) (P : Nat → Nat) (x y z NN : Nat) (CL : Bool) (CU : Nat) (R : Nat → Nat) (p0 : Option Addr) (c0 B0 b0 : Nat) (Q : Nat → Nat) (X bx : Nat) (p1 : Option Addr) (c1 B1 b1 : Nat) (R1 : Nat → Nat) (w : World) : Prop :=
  M0 W a n c cu cl P x y z NN CL CU R p0 c0 B0 b0 Q X bx w ∧ Box3 b1 p1 NN c1 CL CU w ∧ ResP p1 NN R1 B1 w ∧ B1 < w.heap.size
def Ord1 (W : World) (B0 b0 X bx B1 b1 : Nat) : Prop := Ord0 W B0 b0 X bx ∧ bx < B1 ∧ bx < b1 ∧ B1 ≠ b1
theorem M1.loc (o : Ord1 W B0 b0 X bx B1 b1) : Loc (max B1 b1) (M1 W a n c cu cl P x y z NN CL CU R p0 c0 B0 b0 Q X bx p1 c1 B1 b1 R1) := by
  obtain ⟨o0, o1, o2, o3⟩ := o
  refine ⟨fun w h => by have := World.block_lt_of_cell? w _ h.2.1.1; have := h.2.2.2; have e : (⟨b1, 0, none⟩ : Addr).block = b1 := rfl; omega, ?_⟩
  intro w w' ⟨h0, h1, h2, h3⟩ e0 e1 e2 hs e
  exact ⟨(M0.loc o0).2 w w' h0 e0 e1 e2 (by omega) fun k hk => e k (by omega), (Loc.box3 _ _ _ _ _ _).2 w w' h1 e0 e1 e2 (by omega) fun k hk => e k (by omega), h2.blocks (e _ (by omega)), by omega⟩
theorem M1.markX (hb : Aside X w w') (o : Ord1 W B0 b0 X bx B1 b1) (hr : WRow X n Q w') (h : M1 W a n c cu cl P x y z NN CL CU R p0 c0 B0 b0 P X bx p1 c1 B1 b1 R1 w) : M1 W a n c cu cl P x y z NN CL CU R p0 c0 B0 b0 Q X bx p1 c1 B1 b1 R1 w' := by
  obtain ⟨h0, h1, h2, h3⟩ := h
  obtain ⟨o0, o1, o2, o3⟩ := o
  have l := o0.2.2.2.2
  exact ⟨h0.mark hb o0 hr, h1.aside hb (by omega), h2.aside hb (by omega), Nat.lt_of_lt_of_le h3 hb.size⟩
theorem M1.markG {R2 : Nat → Nat} (hb : Aside B1 w w') (o : Ord1 W B0 b0 X bx B1 b1) (hr : ResP p1 NN R2 B1 w') (h : M1 W a n c cu cl P x y z NN CL CU R p0 c0 B0 b0 Q X bx p1 c1 B1 b1 R1 w) : M1 W a n c cu cl P x y z NN CL CU R p0 c0 B0 b0 Q X bx p1 c1 B1 b1 R2 w' := by
  obtain ⟨h0, h1, h2, h3⟩ := h
  obtain ⟨o0, o1, o2, o3⟩ := o
  exact ⟨h0.aside hb o0 o1, h1.aside hb (by omega), hr, Nat.lt_of_lt_of_le h3 hb.size⟩
end
end Go.Proofs.Ytfcniebfoboogaa
