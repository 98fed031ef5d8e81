/- Facts on a world that hang on its first blocks alone: they stay where memory is made, a tape is asked, or another block is written. Conditions: none. -/
import Derived.Test.YtfcniebfoboogaaHold
namespace Go.Proofs.Ytfcniebfoboogaa
open Go.RowKit

/-- K hangs on the blocks up to m alone, and these are there. -/
def Loc (m : Nat) (K : World → Prop) : Prop :=
  (∀ w, K w → m < w.heap.size) ∧ ∀ w w' : World, K w → w'.os = w.os → w'.tape = w.tape → w'.output = w.output → m < w'.heap.size → (∀ k, k ≤ m → w'.heap[k]? = w.heap[k]?) → K w'
section
variable {m M C g i : Nat} {K J : World → Prop} {w w' : World} {o : Obj} {u v : Value}
theorem Loc.size (H : Hid (Loc m K)) (h : K w) : Hid (m < w.heap.size) := Lib.hid (H.out.1 w h)
theorem Loc.lt (H : Hid (Loc m K)) (h : K w) : m < w.heap.size := H.out.1 w h
theorem Loc.keep (H : Hid (Loc m K)) (hb : Below w.heap.size w w') (h : K w) : K w' :=
  H.out.2 w w' h hb.os hb.tape hb.output (Nat.lt_of_lt_of_le (H.out.1 w h) hb.size) fun k hk => hb.block k (Nat.lt_of_le_of_lt hk (H.out.1 w h))
theorem Loc.drew (H : Hid (Loc m K)) (h : K w) : K w.drew := Loc.keep H (Below.drew (Below.refl _ _)) h
theorem Loc.undrew (H : Hid (Loc m K)) (h : K w.drew) : K w := H.out.2 w.drew w h rfl rfl rfl (H.out.1 w.drew h) fun _ _ => rfl
theorem Loc.alloc (H : Hid (Loc m K)) (h : K w) (o : Obj) : K (w.alloc o) := Loc.keep H (belowAlloc (Below.refl _ _) _) h
theorem Loc.allocD (H : Hid (Loc m K)) (h : K w.drew) (o : Obj) : K (w.alloc o).drew := Loc.drew H (Loc.alloc H (Loc.undrew H h) o)
theorem Loc.re (H : Hid (Loc m K)) (h : K (w.alloc o)) (hm : Hid (m < w.heap.size)) (o' : Obj) : K (w.alloc o') :=
  H.out.2 _ _ h rfl rfl rfl (by have := hm.out; simp; omega) fun k hk => by
    have := hm.out
    rw [Below.heap_alloc _ _ _ (by omega), Below.heap_alloc _ _ _ (by omega)]
theorem Loc.set (H : Hid (Loc m K)) (h : K w) (hg : m < g) : K (w.setCell ⟨g, i, none⟩ u) :=
  H.out.2 _ _ h rfl rfl rfl (by simpa [World.setCell] using H.out.1 w h) fun k hk => Below.heap_setCell _ _ _ _ (by show k ≠ g; omega)
theorem Loc.aside (H : Hid (Loc m K)) (hb : Aside C w w') (h : K w) (hC : m < C) : K w' :=
  H.out.2 _ _ h hb.os hb.tape hb.output (Nat.lt_of_lt_of_le (H.out.1 w h) hb.size) fun k hk => hb.block k (Nat.lt_of_le_of_lt hk (H.out.1 w h)) (by omega)
theorem Loc.both (H : Loc m K) (I : Loc M J) (hm : m ≤ M) : Loc M (fun w => K w ∧ J w) :=
  ⟨fun w h => I.1 w h.2, fun w w' h a b c d e => ⟨H.2 w w' h.1 a b c (by omega) fun k hk => e k (by omega), I.2 w w' h.2 a b c d e⟩⟩
theorem Loc.both' (H : Loc m K) (I : Loc M J) (hm : M ≤ m) : Loc m (fun w => K w ∧ J w) :=
  ⟨fun w h => H.1 w h.1, fun w w' h a b c d e => ⟨H.2 w w' h.1 a b c d e, I.2 w w' h.2 a b c (by omega) fun k hk => e k (by omega)⟩⟩
theorem Loc.cell (g i : Nat) (v : Value) : Loc g (fun w => w.cell? ⟨g, i, none⟩ = some v) :=
  ⟨fun w h => World.block_lt_of_cell? w ⟨g, i, none⟩ h, fun w _ h _ _ _ _ e => (World.cell?_of_block (w := w) (a := ⟨g, i, none⟩) (e g (Nat.le_refl _))).trans h⟩
theorem Loc.box3 (g : Nat) (a : Option Addr) (n c : Nat) (cl : Bool) (cu : Nat) : Loc g (Box3 g a n c cl cu) :=
  Loc.both (Loc.cell g 0 _) (Loc.both (Loc.cell g 1 _) (Loc.cell g 2 _) (Nat.le_refl _)) (Nat.le_refl _)
theorem Loc.wrow (B n : Nat) (P : Nat → Nat) : Loc B (WRow B n P) := ⟨fun _ h => h.lt, fun _ _ h _ _ _ _ e => h.ofBlock (e B (Nat.le_refl _))⟩
end
theorem drewSize (w : World) : w.drew.heap.size = w.heap.size := rfl
/-- Six cells of two boxes and more. -/
abbrev S6 (g : Nat) (a b c : Value) (h : Nat) (d e f : Value) (K : World → Prop) (w : World) : Prop :=
  w.cell? ⟨g, 0, none⟩ = some a ∧ w.cell? ⟨g, 1, none⟩ = some b ∧ w.cell? ⟨g, 2, none⟩ = some c ∧ w.cell? ⟨h, 0, none⟩ = some d ∧ w.cell? ⟨h, 1, none⟩ = some e ∧ w.cell? ⟨h, 2, none⟩ = some f ∧ K w
theorem Loc.s6 {m g h : Nat} {a b c d e f : Value} {K : World → Prop} (H : Loc m K) (hg : g ≤ m) (hh : h ≤ m) : Loc m (S6 g a b c h d e f K) :=
  Loc.both (Loc.cell g 0 a) (Loc.both (Loc.cell g 1 b) (Loc.both (Loc.cell g 2 c) (Loc.both (Loc.cell h 0 d) (Loc.both (Loc.cell h 1 e) (Loc.both (Loc.cell h 2 f) H hh) hh) hh) hg) hg) hg
theorem S6.whole {g h : Nat} {a b c d e f : Value} {K : World → Prop} {w : World} (s : S6 g a b c h d e f K w) : K w := s.2.2.2.2.2.2
end Go.Proofs.Ytfcniebfoboogaa
