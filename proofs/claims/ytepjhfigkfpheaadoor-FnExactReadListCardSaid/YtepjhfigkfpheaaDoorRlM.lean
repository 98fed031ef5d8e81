/- Marks laid into a list of integers and found again; what stays while one block is written. Conditions: as each says. -/
import Derived.Test.YtepjhfigkfpheaaDoorRlI
namespace Go.Proofs.YtepjhfigkfpheaaDoor
open Go.RowKit Go.Lib

/-- Only block B is written. -/
structure Aside (B : Nat) (w w' : World) : Prop where
  os : w'.os = w.os
  tape : w'.tape = w.tape
  output : w'.output = w.output
  size : w.heap.size ≤ w'.heap.size
  block : ∀ k, k < w.heap.size → k ≠ B → w'.heap[k]? = w.heap[k]?
theorem Aside.of (B : Nat) {w w' : World} (h : Below w.heap.size w w') : Aside B w w' := ⟨h.os, h.tape, h.output, h.size, fun k hk _ => h.block k hk⟩
theorem Aside.trans {B : Nat} {a b c : World} (h : Aside B a b) (g : Aside B b c) : Aside B a c :=
  ⟨g.os.trans h.os, g.tape.trans h.tape, g.output.trans h.output, Nat.le_trans h.size g.size, fun k hk hn => (g.block k (Nat.lt_of_lt_of_le hk h.size) hn).trans (h.block k hk hn)⟩
theorem Aside.set {B : Nat} {a w : World} (h : Aside B a w) (i : Nat) (u : Value) : Aside B a (w.setCell ⟨B, i, none⟩ u) :=
  h.trans ⟨rfl, rfl, rfl, by simp [World.setCell], fun k _ hn => Below.heap_setCell _ _ _ _ hn⟩
theorem Aside.below {B N : Nat} {W w w' : World} (h : Below N W w) (g : Aside B w w') (hB : N ≤ B) (hN : N ≤ w.heap.size) : Below N W w' :=
  ⟨g.os.trans h.os, g.tape.trans h.tape, g.output.trans h.output, Nat.le_trans h.size g.size, fun k hk => (g.block k (by omega) (by omega)).trans (h.block k hk)⟩
theorem Aside.cell {B : Nat} {w w' : World} (g : Aside B w w') {b i : Nat} {v : Value} (h : w.cell? ⟨b, i, none⟩ = some v) (hn : b ≠ B) : w'.cell? ⟨b, i, none⟩ = some v :=
  (World.cell?_of_block (w := w) (g.block b (World.block_lt_of_cell? w ⟨b, i, none⟩ h) hn)).trans h

/-- The integers as cells. -/
def intL (L : Nat → Int) (n : Nat) : List Value := (List.range n).map fun j => .int .i64 (L j)
theorem intL_of (zs : List Int) : zs.map (Value.int .i64) = intL (fun j => zs.getD j 0) zs.length := by
  apply List.ext_getElem?
  intro i
  simp only [intL, List.getElem?_map]
  by_cases h : i < zs.length
  · rw [List.getElem?_eq_getElem h, List.getElem?_range h]; simp [List.getD, h]
  · rw [List.getElem?_eq_none (by omega), List.getElem?_eq_none (by simp; omega)]; rfl
theorem intL_at {L : Nat → Int} {n j : Nat} (h : j < n) : (intL L n)[j]? = some (.int .i64 (L j)) := by simp [intL, List.getElem?_range h]
theorem intL_set {L : Nat → Int} {n j : Nat} (z : Int) : (intL L n).set j (.int .i64 z) = intL (fun i => if i = j then z else L i) n := by
  apply List.ext_getElem?
  intro i
  rw [List.getElem?_set]
  by_cases h : i < n
  · rw [intL_at h]
    by_cases e : j = i
    · subst e; rw [if_pos rfl, if_pos (by simpa [intL] using h), intL_at h]; exact congrArg (fun x => some (Value.int .i64 x)) (if_pos rfl).symm
    · rw [if_neg e, intL_at h, if_neg (fun x => e x.symm)]
  · have e1 : (intL L n)[i]? = none := List.getElem?_eq_none (by simp [intL]; omega)
    have e2 : (intL (fun i => if i = j then z else L i) n)[i]? = none := List.getElem?_eq_none (by simp [intL]; omega)
    rw [e1, e2]
    by_cases e : j = i
    · subst e; rw [if_pos rfl, if_neg (by simp [intL]; omega)]
    · rw [if_neg e]
theorem intL_congr {L M : Nat → Int} {n : Nat} (h : ∀ j, j < n → L j = M j) : intL L n = intL M n := by
  unfold intL
  exact List.map_congr_left fun j hj => by rw [h j (List.mem_range.1 hj)]
theorem IS.own {w : World} {base g n c : Nat} {L : Nat → Int} (h : w.ownsRow base 2 1 (.slice (some ⟨g, 0, none⟩) n c) n (intL L n)) : IS w g 0 n L := fun i hi => by
  have := h.cells (g := g) rfl i _ (intL_at hi)
  rw [Go.WideShapes.add_plain] at this
  exact this
/-- The marks. -/
def mk1 (j : Nat) : Int := 1 + j
def mkQ (L : Nat → Int) (m j : Nat) : Int := if j < m then mk1 j else L j
set_option maxRecDepth 100000 in
theorem laws_markI (base g n c : Nat) (L : Nat → Int) (hn : n ≤ 1048576) (w : World) (h : w.ownsRow base 2 1 (.slice (some ⟨g, 0, none⟩) n c) n (intL L n)) :
    Calls Tryd.prog 15 #[.slice (some ⟨g, 0, none⟩) n c, .int .i64 1] w fun e w' => e = .returned (.int .i64 ((n + 1 : Nat) : Int)) ∧ w'.ownsRow base 2 1 (.slice (some ⟨g, 0, none⟩) n c) n (intL mk1 n) ∧ Aside g w w' := by
  have HW := Lib.hid h
  clear h
  go_enter Tryd.func15, Tryd.ntmps15
  go_wp2_with fail
  go_loopw [1, 5] (fun k i wr => ∃ m : Nat, m ≤ n ∧ i = .int .i64 m ∧ k = .int .i64 ((m + 1 : Nat) : Int) ∧ wr.ownsRow base 2 1 (.slice (some ⟨g, 0, none⟩) n c) n (intL (mkQ L m) n) ∧ Aside g w wr) (fun _ i _ => n - (RowKit.intOf i).toNat)
  case atStart => exact ⟨0, Nat.zero_le _, rfl, rfl, HW.out, Aside.of g (Below.refl _ _)⟩
  case round =>
    obtain ⟨m, hm, rfl, rfl, hrow, has⟩ := hrel
    have H := Lib.hid (And.intro hrow has)
    by_cases hlt : m < n
    · have f0 := hrow.frozenAt m
      have x0 := hrow.cellAt m (by omega)
      rw [intL_at hlt] at x0
      have p0 : (0 : Int) ≤ (m : Int) := by omega
      have p1 : (m : Int) < (n : Int) := by omega
      clear hrow has
      go_wp2_with fail
      go_roundw
      case rel =>
        obtain ⟨hrow, has⟩ := H.out
        refine ⟨m + 1, by omega, by go_num, by go_num, ?_, has.set _ _⟩
        have hs := (hrow.stored m (.int .i64 ((m : Int) + 1))).1
        rw [intL_set] at hs
        rw [intL_congr (M := fun i => if i = m then (m : Int) + 1 else mkQ L m i)]
        · exact hs
        · intro j hj
          unfold mkQ mk1
          by_cases e : j = m
          · subst e; rw [if_pos (by omega)]; simp; omega
          · by_cases l : j < m
            · rw [if_pos (by omega), if_neg e, if_pos l]
            · rw [if_neg (by omega), if_neg e, if_neg l]
      case measure => simp [RowKit.intOf]; omega
    · obtain rfl : m = n := by omega
      clear hrow has
      go_wp2_with fail
      go_ret
      obtain ⟨hrow, has⟩ := H.out
      refine ⟨rfl, ?_, has⟩
      rw [intL_congr (M := mkQ L m) (fun j hj => by unfold mkQ; rw [if_pos hj])]
      exact hrow
set_option maxRecDepth 100000 in
theorem laws_heldI (g n c : Nat) (hn : n ≤ 1048576) (w : World) (h : IS w g 0 n mk1) :
    Calls Tryd.prog 16 #[.slice (some ⟨g, 0, none⟩) n c, .int .i64 1] w fun e w' => e = .returned (.int .i64 ((n + 1 : Nat) : Int)) ∧ w = w' := by
  have HW := Lib.hid h
  clear h
  go_enter Tryd.func16, Tryd.ntmps16
  go_wp2_with fail
  go_loopw [1, 5] (fun k i wr => ∃ m : Nat, m ≤ n ∧ i = .int .i64 m ∧ k = .int .i64 ((m + 1 : Nat) : Int) ∧ wr = w) (fun _ i _ => n - (RowKit.intOf i).toNat)
  case atStart => exact ⟨0, Nat.zero_le _, rfl, rfl, rfl⟩
  case round =>
    obtain ⟨m, hm, rfl, rfl, rfl⟩ := hrel
    by_cases hlt : m < n
    · have x0 := HW.out m hlt
      rw [Nat.zero_add] at x0
      have e0 : mk1 m = (m : Int) + 1 := by unfold mk1; omega
      rw [e0] at x0
      have p0 : (0 : Int) ≤ (m : Int) := by omega
      have p1 : (m : Int) < (n : Int) := by omega
      clear e0
      go_wp2_with fail
      go_roundw
      case rel => exact ⟨m + 1, by omega, by go_num, by go_num, trivial⟩
      case measure => simp [RowKit.intOf]; omega
    · obtain rfl : m = n := by omega
      go_wp2_with fail
      go_ret
      exact ⟨rfl, rfl⟩
theorem laws_markI_nil (w : World) : Calls Tryd.prog 15 #[.slice none 0 0, .int .i64 1] w fun e w' => e = .returned (.int .i64 1) ∧ w = w' := by
  go_enter Tryd.func15, Tryd.ntmps15
  go_wp2_with fail
  go_loopw [1, 5] (fun k i wr => i = .int .i64 0 ∧ k = .int .i64 1 ∧ wr = w) (fun _ _ _ => 0)
  case atStart => exact ⟨rfl, rfl, rfl⟩
  case round =>
    obtain ⟨rfl, rfl, rfl⟩ := hrel
    go_wp2_with fail
    go_ret
    exact ⟨rfl, rfl⟩
theorem laws_heldI_nil (w : World) : Calls Tryd.prog 16 #[.slice none 0 0, .int .i64 1] w fun e w' => e = .returned (.int .i64 1) ∧ w = w' := by
  go_enter Tryd.func16, Tryd.ntmps16
  go_wp2_with fail
  go_loopw [1, 5] (fun k i wr => i = .int .i64 0 ∧ k = .int .i64 1 ∧ wr = w) (fun _ _ _ => 0)
  case atStart => exact ⟨rfl, rfl, rfl⟩
  case round =>
    obtain ⟨rfl, rfl, rfl⟩ := hrel
    go_wp2_with fail
    go_ret
    exact ⟨rfl, rfl⟩
end Go.Proofs.YtepjhfigkfpheaaDoor
