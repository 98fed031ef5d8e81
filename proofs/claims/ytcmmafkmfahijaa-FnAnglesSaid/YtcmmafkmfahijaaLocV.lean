/- Facts on a world that hang on its first blocks alone; boxes of three numbers; what a drawn region with two new boxes leaves. Conditions: none. -/
import Derived.Test.YtcmmafkmfahijaaHeld
namespace Go.Proofs.Ytcmmafkmfahijaa
open Go.RowKit

/-- K hangs on the blocks up to m alone, and these are there. -/
def Loc (m : Nat) (K : World → Prop) : Prop :=
  (∀ w, K w → m < w.heap.size) ∧ ∀ w w' : World, K w → w'.os = w.os → w'.tape = w.tape → w'.output = w.output → m < w'.heap.size → (∀ k, k ≤ m → w'.heap[k]? = w.heap[k]?) → K w'
section
variable {m M g h i : Nat} {K J : World → Prop} {w w' : World} {o : Obj} {u v : Value}
theorem Loc.size (H : Hid (Loc m K)) (h : K w) : m < w.heap.size := H.out.1 w h
theorem Loc.keep (H : Hid (Loc m K)) (hb : Below w.heap.size w w') (h : K w) : K w' :=
  H.out.2 w w' h hb.os hb.tape hb.output (Nat.lt_of_lt_of_le (H.out.1 w h) hb.size) fun k hk => hb.block k (Nat.lt_of_le_of_lt hk (H.out.1 w h))
theorem Loc.drew (H : Hid (Loc m K)) (h : K w) : K w.drew := Loc.keep H (Below.drew (Below.refl _ _)) h
theorem Loc.drewN (H : Hid (Loc m K)) (h : K w) (n : Nat) : K (w.drewN n) := Loc.keep H (below_drewN (Below.refl _ _) n) h
theorem Loc.undrew (H : Hid (Loc m K)) (h : K w.drew) : K w := H.out.2 w.drew w h rfl rfl rfl (H.out.1 w.drew h) fun _ _ => rfl
theorem Loc.alloc (H : Hid (Loc m K)) (h : K w) (o : Obj) : K (w.alloc o) := Loc.keep H (belowAlloc (Below.refl _ _) _) h
theorem Loc.set (H : Hid (Loc m K)) (h : K w) (hg : m < g) : K (w.setCell ⟨g, i, none⟩ u) :=
  H.out.2 _ _ h rfl rfl rfl (by simpa [World.setCell] using H.out.1 w h) fun k hk => Below.heap_setCell _ _ _ _ (by show k ≠ g; omega)
theorem Loc.both (H : Loc m K) (I : Loc M J) (hm : m ≤ M) : Loc M (fun w => K w ∧ J w) :=
  ⟨fun w h => I.1 w h.2, fun w w' h a b c d e => ⟨H.2 w w' h.1 a b c (by omega) fun k hk => e k (by omega), I.2 w w' h.2 a b c d e⟩⟩
theorem Loc.cell (g i : Nat) (v : Value) : Loc g (fun w => w.cell? ⟨g, i, none⟩ = some v) :=
  ⟨fun w h => World.block_lt_of_cell? w ⟨g, i, none⟩ h, fun w _ h _ _ _ _ e => (World.cell?_of_block (w := w) (a := ⟨g, i, none⟩) (e g (Nat.le_refl _))).trans h⟩
end
theorem drewSize (w : World) : w.drew.heap.size = w.heap.size := rfl
/-- A vector in a box. -/
def BoxV (g x y z : Nat) (w : World) : Prop := w.cell? ⟨g, 0, none⟩ = some (.float .f32 x) ∧ w.cell? ⟨g, 1, none⟩ = some (.float .f32 y) ∧ w.cell? ⟨g, 2, none⟩ = some (.float .f32 z)
/-- A variable of three cells. -/
def Any3 (g : Nat) (w : World) : Prop := ∃ a b c, w.cell? ⟨g, 0, none⟩ = some a ∧ w.cell? ⟨g, 1, none⟩ = some b ∧ w.cell? ⟨g, 2, none⟩ = some c
/-- The same, as a walk wants it. -/
abbrev R3 (g : Nat) (a b c : Value) (w : World) : Prop := w.cell? ⟨g, 0, none⟩ = some a ∧ w.cell? ⟨g, 1, none⟩ = some b ∧ w.cell? ⟨g, 2, none⟩ = some c ∧ w.frozen? ⟨g, 0, none⟩ = false ∧ w.frozen? ⟨g, 1, none⟩ = false ∧ w.frozen? ⟨g, 2, none⟩ = false
abbrev R6 (g : Nat) (a b c : Value) (h : Nat) (d e f : Value) (w : World) : Prop := w.cell? ⟨g, 0, none⟩ = some a ∧ w.cell? ⟨g, 1, none⟩ = some b ∧ w.cell? ⟨g, 2, none⟩ = some c ∧ w.frozen? ⟨g, 0, none⟩ = false ∧ w.frozen? ⟨g, 1, none⟩ = false ∧ w.frozen? ⟨g, 2, none⟩ = false ∧
  w.cell? ⟨h, 0, none⟩ = some d ∧ w.cell? ⟨h, 1, none⟩ = some e ∧ w.cell? ⟨h, 2, none⟩ = some f ∧ w.frozen? ⟨h, 0, none⟩ = false ∧ w.frozen? ⟨h, 1, none⟩ = false ∧ w.frozen? ⟨h, 2, none⟩ = false
section
variable {g h m : Nat} {a b c d e f a' b' c' : Value} {w w1 w2 : World} {t : TypeId} {p q r : Nat}
theorem R3.lt (hr : R3 g a b c w) : g < w.heap.size := World.block_lt_of_cell? w ⟨g, 0, none⟩ hr.1
theorem R6.lt (hr : R6 g a b c h d e f w) : g < w.heap.size ∧ h < w.heap.size := ⟨World.block_lt_of_cell? w ⟨g, 0, none⟩ hr.1, World.block_lt_of_cell? w ⟨h, 0, none⟩ hr.2.2.2.2.2.2.1⟩
theorem R6.mk (h1 : R3 g a b c w) (h2 : R3 h d e f w) : R6 g a b c h d e f w := ⟨h1.1, h1.2.1, h1.2.2.1, h1.2.2.2.1, h1.2.2.2.2.1, h1.2.2.2.2.2, h2⟩
theorem R6.fst (h1 : R6 g a b c h d e f w) : R3 g a b c w := ⟨h1.1, h1.2.1, h1.2.2.1, h1.2.2.2.1, h1.2.2.2.2.1, h1.2.2.2.2.2.1⟩
theorem R6.snd (h1 : R6 g a b c h d e f w) : R3 h d e f w := h1.2.2.2.2.2.2
theorem R3.keep (hr : R3 g a b c w1) (hb : Below w1.heap.size w1 w2) : R3 g a b c w2 := carryCells hr hb
theorem R3.alloc (hr : R3 g a b c w1) (o : Obj) : R3 g a b c (w1.alloc o) := carryCells hr (belowAlloc (Below.refl _ _) _)
theorem R6.keep (hr : R6 g a b c h d e f w1) (hb : Below w1.heap.size w1 w2) : R6 g a b c h d e f w2 := R6.mk (hr.fst.keep hb) (hr.snd.keep hb)
theorem R6.both (hb : Below ((w1.alloc (.cells #[a, b, c] t)).alloc (.cells #[d, e, f] t)).heap.size ((w1.alloc (.cells #[a, b, c] t)).alloc (.cells #[d, e, f] t)) w2) : R6 w1.heap.size a b c (w1.heap.size + 1) d e f w2 := by
  have h2 := newCells hb
  rw [World.size_alloc] at h2
  exact R6.mk (R3.keep (R3.alloc (newCells (t := t) (Below.refl _ _)) _) hb) h2
theorem R6.bothD (hb : Below ((w1.alloc (.cells #[a, b, c] t)).alloc (.cells #[d, e, f] t)).drew.heap.size ((w1.alloc (.cells #[a, b, c] t)).alloc (.cells #[d, e, f] t)).drew w2) : R6 w1.heap.size a b c (w1.heap.size + 1) d e f w2 :=
  R6.both (t := t) ⟨hb.os, hb.tape, hb.output, hb.size, hb.block⟩
theorem R6.next (hr : R3 g a b c w1) (hb : Below (w1.alloc (.cells #[d, e, f] t)).heap.size (w1.alloc (.cells #[d, e, f] t)) w2) : R6 g a b c w1.heap.size d e f w2 :=
  R6.mk (R3.keep (hr.alloc _) hb) (newCells hb)
theorem Any3.of (hr : R3 g a b c w) : Any3 g w := ⟨_, _, _, hr.1, hr.2.1, hr.2.2.1⟩
theorem Any3.fst (hr : R6 g a b c h d e f w) : Any3 g w := Any3.of hr.fst
theorem Any3.snd (hr : R6 g a b c h d e f w) : Any3 h w := Any3.of hr.snd
theorem Any3.new (e : g = w.heap.size) : Any3 g (w.alloc (.cells #[a, b, c] t)) := by
  subst e; exact Any3.of (newCells (t := t) (Below.refl _ _))
theorem Any3.alloc (hr : Any3 g w) (o : Obj) : Any3 g (w.alloc o) := by
  obtain ⟨a, b, c, h0, h1, h2⟩ := hr
  exact ⟨a, b, c, cellAlloc h0 _, cellAlloc h1 _, cellAlloc h2 _⟩
theorem cellPast {w1 : World} {b i g j : Nat} {u v : Value} (h : w1.cell? ⟨b, i, none⟩ = some v) (hg : b ≠ g) : (w1.setCell ⟨g, j, none⟩ u).cell? ⟨b, i, none⟩ = some v := by
  rw [World.cell?_setCell_other _ _ _ _ (fun e => by injection e; omega)]; exact h
theorem Any3.past (hr : Any3 g w) (hn : g ≠ h) : Any3 g (((w.setCell ⟨h, 0, none⟩ a').setCell ⟨h, 1, none⟩ b').setCell ⟨h, 2, none⟩ c') := by
  obtain ⟨a, b, c, h0, h1, h2⟩ := hr
  exact ⟨a, b, c, cellPast (cellPast (cellPast h0 hn) hn) hn, cellPast (cellPast (cellPast h1 hn) hn) hn, cellPast (cellPast (cellPast h2 hn) hn) hn⟩
theorem BoxV.set (hr : Any3 g w) : BoxV g p q r (((w.setCell ⟨g, 0, none⟩ (.float .f32 p)).setCell ⟨g, 1, none⟩ (.float .f32 q)).setCell ⟨g, 2, none⟩ (.float .f32 r)) := by
  obtain ⟨a, b, c, h0, h1, h2⟩ := hr
  exact setThree h0 h1 h2
theorem BoxV.new (e : g = w.heap.size) : BoxV g p q r (w.alloc (.cells #[.float .f32 p, .float .f32 q, .float .f32 r] t)) := by
  subst e
  have h := newCells (w1 := w) (a := .float .f32 p) (b := .float .f32 q) (c := .float .f32 r) (t := t) (Below.refl _ _)
  exact ⟨h.1, h.2.1, h.2.2.1⟩
theorem BoxV.new0 : BoxV w.heap.size p q r (w.alloc (.cells #[.float .f32 p, .float .f32 q, .float .f32 r] t)) := BoxV.new rfl
theorem BoxV.new1 {o : Obj} : BoxV (w.heap.size + 1) p q r ((w.alloc o).alloc (.cells #[.float .f32 p, .float .f32 q, .float .f32 r] t)) := BoxV.new (by simp)
theorem BoxV.new2 {k0 k1 k2 : Addr} {v0 v1 v2 : Value} : BoxV w.heap.size p q r ((((w.setCell k0 v0).setCell k1 v1).setCell k2 v2).alloc (.cells #[.float .f32 p, .float .f32 q, .float .f32 r] t)) := BoxV.new (by simp)
theorem BoxV.of (hr : R3 g (.float .f32 p) (.float .f32 q) (.float .f32 r) w) : BoxV g p q r w := ⟨hr.1, hr.2.1, hr.2.2.1⟩
theorem BoxV.alloc (hr : BoxV g p q r w) (o : Obj) : BoxV g p q r (w.alloc o) := ⟨cellAlloc hr.1 _, cellAlloc hr.2.1 _, cellAlloc hr.2.2 _⟩
theorem BoxV.past (hr : BoxV g p q r w) (hn : g ≠ h) : BoxV g p q r (((w.setCell ⟨h, 0, none⟩ a').setCell ⟨h, 1, none⟩ b').setCell ⟨h, 2, none⟩ c') :=
  ⟨cellPast (cellPast (cellPast hr.1 hn) hn) hn, cellPast (cellPast (cellPast hr.2.1 hn) hn) hn, cellPast (cellPast (cellPast hr.2.2 hn) hn) hn⟩
theorem BoxV.keep (hb : Below w1.heap.size w1 w2) (h : BoxV g p q r w1) : BoxV g p q r w2 := ⟨cellKeep hb h.1, cellKeep hb h.2.1, cellKeep hb h.2.2⟩
end
/-- Nine cells of three boxes and more. -/
abbrev S9 (g0 x0 y0 z0 g1 x1 y1 z1 g2 x2 y2 z2 : Nat) (K : World → Prop) (w : World) : Prop :=
  w.cell? ⟨g0, 0, none⟩ = some (.float .f32 x0) ∧ w.cell? ⟨g0, 1, none⟩ = some (.float .f32 y0) ∧ w.cell? ⟨g0, 2, none⟩ = some (.float .f32 z0) ∧
  w.cell? ⟨g1, 0, none⟩ = some (.float .f32 x1) ∧ w.cell? ⟨g1, 1, none⟩ = some (.float .f32 y1) ∧ w.cell? ⟨g1, 2, none⟩ = some (.float .f32 z1) ∧
  w.cell? ⟨g2, 0, none⟩ = some (.float .f32 x2) ∧ w.cell? ⟨g2, 1, none⟩ = some (.float .f32 y2) ∧ w.cell? ⟨g2, 2, none⟩ = some (.float .f32 z2) ∧ K w
/-- Six cells of two boxes and more. -/
abbrev S6 (g0 x0 y0 z0 g1 x1 y1 z1 : Nat) (K : World → Prop) (w : World) : Prop :=
  w.cell? ⟨g0, 0, none⟩ = some (.float .f32 x0) ∧ w.cell? ⟨g0, 1, none⟩ = some (.float .f32 y0) ∧ w.cell? ⟨g0, 2, none⟩ = some (.float .f32 z0) ∧
  w.cell? ⟨g1, 0, none⟩ = some (.float .f32 x1) ∧ w.cell? ⟨g1, 1, none⟩ = some (.float .f32 y1) ∧ w.cell? ⟨g1, 2, none⟩ = some (.float .f32 z1) ∧ K w
section
variable {g0 x0 y0 z0 g1 x1 y1 z1 g2 x2 y2 z2 m M : Nat} {K : World → Prop} {w : World}
theorem S9.whole (s : S9 g0 x0 y0 z0 g1 x1 y1 z1 g2 x2 y2 z2 K w) : K w := s.2.2.2.2.2.2.2.2.2
theorem S6.whole (s : S6 g0 x0 y0 z0 g1 x1 y1 z1 K w) : K w := s.2.2.2.2.2.2
theorem Loc.s9 (H : Loc m K) (h0 : g0 ≤ m) (h1 : g1 ≤ m) (h2 : g2 ≤ m) : Loc m (S9 g0 x0 y0 z0 g1 x1 y1 z1 g2 x2 y2 z2 K) :=
  Loc.both (Loc.cell g0 0 _) (Loc.both (Loc.cell g0 1 _) (Loc.both (Loc.cell g0 2 _) (Loc.both (Loc.cell g1 0 _) (Loc.both (Loc.cell g1 1 _) (Loc.both (Loc.cell g1 2 _) (Loc.both (Loc.cell g2 0 _) (Loc.both (Loc.cell g2 1 _) (Loc.both (Loc.cell g2 2 _) H h2) h2) h2) h1) h1) h1) h0) h0) h0
theorem Loc.s6 (H : Loc m K) (hm : m ≤ max g0 g1) : Loc (max g0 g1) (S6 g0 x0 y0 z0 g1 x1 y1 z1 K) := by
  refine ⟨fun w h => ?_, fun w w' ⟨h0, h1, h2, h3, h4, h5, h6⟩ a b c d e => ?_⟩
  · have l0 : g0 < w.heap.size := World.block_lt_of_cell? w ⟨g0, 0, none⟩ h.1
    have l1 : g1 < w.heap.size := World.block_lt_of_cell? w ⟨g1, 0, none⟩ h.2.2.2.1
    omega
  · have q0 : ∀ i v, w.cell? ⟨g0, i, none⟩ = some v → w'.cell? ⟨g0, i, none⟩ = some v := fun i v h => (World.cell?_of_block (w := w) (a := ⟨g0, i, none⟩) (e g0 (by omega))).trans h
    have q1 : ∀ i v, w.cell? ⟨g1, i, none⟩ = some v → w'.cell? ⟨g1, i, none⟩ = some v := fun i v h => (World.cell?_of_block (w := w) (a := ⟨g1, i, none⟩) (e g1 (by omega))).trans h
    exact ⟨q0 _ _ h0, q0 _ _ h1, q0 _ _ h2, q1 _ _ h3, q1 _ _ h4, q1 _ _ h5, H.2 w w' h6 a b c (by omega) fun k hk => e k (by omega)⟩
theorem Loc.r3 (g : Nat) (a b c : Value) : Loc g (R3 g a b c) := by
  refine ⟨fun w h => World.block_lt_of_cell? w ⟨g, 0, none⟩ h.1, fun w w' h _ _ _ _ e => ?_⟩
  have q : ∀ i v, w.cell? ⟨g, i, none⟩ = some v → w'.cell? ⟨g, i, none⟩ = some v := fun i v h => (World.cell?_of_block (w := w) (a := ⟨g, i, none⟩) (e g (Nat.le_refl _))).trans h
  have r : ∀ i, w'.frozen? ⟨g, i, none⟩ = w.frozen? ⟨g, i, none⟩ := fun i => World.frozen?_of_block (w := w) (a := ⟨g, i, none⟩) (e g (Nat.le_refl _))
  exact ⟨q _ _ h.1, q _ _ h.2.1, q _ _ h.2.2.1, (r 0).trans h.2.2.2.1, (r 1).trans h.2.2.2.2.1, (r 2).trans h.2.2.2.2.2⟩
/-- The box of the result, still zero, and the old blocks as they were. -/
def ResK (W : World) (m : Nat) (w : World) : Prop := R3 m (.float .f32 0) (.float .f32 0) (.float .f32 0) w ∧ Below W.heap.size W w
theorem ResK.loc {W : World} (hm : W.heap.size ≤ m) : Loc m (ResK W m) := by
  refine ⟨fun w h => (Loc.r3 _ _ _ _).1 w h.1, fun w w' h a b c d e => ⟨(Loc.r3 _ _ _ _).2 w w' h.1 a b c d e, ?_⟩⟩
  exact ⟨a.trans h.2.os, b.trans h.2.tape, c.trans h.2.output, by omega, fun k hk => (e k (by omega)).trans (h.2.block k hk)⟩
theorem S9.start (W : World) (t : TypeId) : S9 W.heap.size x0 y0 z0 (W.heap.size + 1) x1 y1 z1 (W.heap.size + 1 + 1) x2 y2 z2 (ResK W (W.heap.size + 1 + 1 + 1))
    ((((W.alloc (.cells #[.float .f32 x0, .float .f32 y0, .float .f32 z0] t)).alloc (.cells #[.float .f32 x1, .float .f32 y1, .float .f32 z1] t)).alloc (.cells #[.float .f32 x2, .float .f32 y2, .float .f32 z2] t)).alloc (.cells #[.float .f32 0, .float .f32 0, .float .f32 0] t)) := by
  have n : ∀ (w : World) (a b c : Value), R3 w.heap.size a b c (w.alloc (.cells #[a, b, c] t)) := fun w a b c => newCells (t := t) (Below.refl _ _)
  have h0 := R3.alloc (R3.alloc (R3.alloc (n W (.float .f32 x0) (.float .f32 y0) (.float .f32 z0)) (.cells #[.float .f32 x1, .float .f32 y1, .float .f32 z1] t)) (.cells #[.float .f32 x2, .float .f32 y2, .float .f32 z2] t)) (.cells #[.float .f32 0, .float .f32 0, .float .f32 0] t)
  have h1 := R3.alloc (R3.alloc (n (W.alloc (.cells #[.float .f32 x0, .float .f32 y0, .float .f32 z0] t)) (.float .f32 x1) (.float .f32 y1) (.float .f32 z1)) (.cells #[.float .f32 x2, .float .f32 y2, .float .f32 z2] t)) (.cells #[.float .f32 0, .float .f32 0, .float .f32 0] t)
  have h2 := R3.alloc (n ((W.alloc (.cells #[.float .f32 x0, .float .f32 y0, .float .f32 z0] t)).alloc (.cells #[.float .f32 x1, .float .f32 y1, .float .f32 z1] t)) (.float .f32 x2) (.float .f32 y2) (.float .f32 z2)) (.cells #[.float .f32 0, .float .f32 0, .float .f32 0] t)
  have h3 := n (((W.alloc (.cells #[.float .f32 x0, .float .f32 y0, .float .f32 z0] t)).alloc (.cells #[.float .f32 x1, .float .f32 y1, .float .f32 z1] t)).alloc (.cells #[.float .f32 x2, .float .f32 y2, .float .f32 z2] t)) (.float .f32 0) (.float .f32 0) (.float .f32 0)
  simp only [World.size_alloc] at h1 h2 h3
  exact ⟨h0.1, h0.2.1, h0.2.2.1, h1.1, h1.2.1, h1.2.2.1, h2.1, h2.2.1, h2.2.2.1, h3, belowAlloc (belowAlloc (belowAlloc (belowAlloc (Below.refl _ _) _) _) _) _⟩
/-- The old blocks as they were; block m is there. -/
def BelK (W : World) (m : Nat) (w : World) : Prop := m < w.heap.size ∧ Below W.heap.size W w
theorem BelK.loc {W : World} (hm : W.heap.size ≤ m) : Loc m (BelK W m) := by
  refine ⟨fun w h => h.1, fun w w' h a b c d e => ⟨d, ?_⟩⟩
  exact ⟨a.trans h.2.os, b.trans h.2.tape, c.trans h.2.output, by omega, fun k hk => (e k (by omega)).trans (h.2.block k hk)⟩
theorem S9.start3 (W : World) (t : TypeId) : S9 W.heap.size x0 y0 z0 (W.heap.size + 1) x1 y1 z1 (W.heap.size + 1 + 1) x2 y2 z2 (BelK W (W.heap.size + 1 + 1))
    (((W.alloc (.cells #[.float .f32 x0, .float .f32 y0, .float .f32 z0] t)).alloc (.cells #[.float .f32 x1, .float .f32 y1, .float .f32 z1] t)).alloc (.cells #[.float .f32 x2, .float .f32 y2, .float .f32 z2] t)) := by
  have n : ∀ (w : World) (a b c : Value), R3 w.heap.size a b c (w.alloc (.cells #[a, b, c] t)) := fun w a b c => newCells (t := t) (Below.refl _ _)
  have h0 := R3.alloc (R3.alloc (n W (.float .f32 x0) (.float .f32 y0) (.float .f32 z0)) (.cells #[.float .f32 x1, .float .f32 y1, .float .f32 z1] t)) (.cells #[.float .f32 x2, .float .f32 y2, .float .f32 z2] t)
  have h1 := R3.alloc (n (W.alloc (.cells #[.float .f32 x0, .float .f32 y0, .float .f32 z0] t)) (.float .f32 x1) (.float .f32 y1) (.float .f32 z1)) (.cells #[.float .f32 x2, .float .f32 y2, .float .f32 z2] t)
  have h2 := n ((W.alloc (.cells #[.float .f32 x0, .float .f32 y0, .float .f32 z0] t)).alloc (.cells #[.float .f32 x1, .float .f32 y1, .float .f32 z1] t)) (.float .f32 x2) (.float .f32 y2) (.float .f32 z2)
  simp only [World.size_alloc] at h1 h2
  exact ⟨h0.1, h0.2.1, h0.2.2.1, h1.1, h1.2.1, h1.2.2.1, h2.1, h2.2.1, h2.2.2.1, by simp, belowAlloc (belowAlloc (belowAlloc (Below.refl _ _) _) _) _⟩
theorem S6.start2 (W : World) (t : TypeId) : S6 W.heap.size x0 y0 z0 (W.heap.size + 1) x1 y1 z1 (BelK W (W.heap.size + 1))
    ((W.alloc (.cells #[.float .f32 x0, .float .f32 y0, .float .f32 z0] t)).alloc (.cells #[.float .f32 x1, .float .f32 y1, .float .f32 z1] t)) := by
  have n : ∀ (w : World) (a b c : Value), R3 w.heap.size a b c (w.alloc (.cells #[a, b, c] t)) := fun w a b c => newCells (t := t) (Below.refl _ _)
  have h0 := R3.alloc (n W (.float .f32 x0) (.float .f32 y0) (.float .f32 z0)) (.cells #[.float .f32 x1, .float .f32 y1, .float .f32 z1] t)
  have h1 := n (W.alloc (.cells #[.float .f32 x0, .float .f32 y0, .float .f32 z0] t)) (.float .f32 x1) (.float .f32 y1) (.float .f32 z1)
  simp only [World.size_alloc] at h1
  exact ⟨h0.1, h0.2.1, h0.2.2.1, h1.1, h1.2.1, h1.2.2.1, by simp, belowAlloc (belowAlloc (Below.refl _ _) _) _⟩
theorem VarV.mk {X Y Z m g p q r : Nat} (hg : BoxV g p q r w) (h0 : Same .f32 p X) (h1 : Same .f32 q Y) (h2 : Same .f32 r Z) (l : m < g) : VarV X Y Z m (.pointer (some ⟨g, 0, none⟩)) w :=
  ⟨g, p, q, r, rfl, l, hg.1, hg.2.1, hg.2.2, h0, h1, h2⟩
theorem Loc.boxV (g x y z : Nat) : Loc g (BoxV g x y z) := Loc.both (Loc.cell g 0 _) (Loc.both (Loc.cell g 1 _) (Loc.cell g 2 _) (Nat.le_refl _)) (Nat.le_refl _)
theorem Loc.both' {J : World → Prop} (H : Loc m K) (I : Loc M J) (hm : M ≤ m) : Loc m (fun w => K w ∧ J w) :=
  ⟨fun w h => H.1 w h.1, fun w w' h a b c d e => ⟨H.2 w w' h.1 a b c d e, I.2 w w' h.2 a b c (by omega) fun k hk => e k (by omega)⟩⟩
def Mid9 (g0 x0 y0 z0 g1 x1 y1 z1 g2 x2 y2 z2 : Nat) (K : World → Prop) (w : World) : Prop := S9 g0 x0 y0 z0 g1 x1 y1 z1 g2 x2 y2 z2 K w
end
end Go.Proofs.Ytcmmafkmfahijaa
