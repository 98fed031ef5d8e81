/- Lists of 64-bit integers: the laws' copies and comparisons, how an argument is opened. Conditions: as each says. -/
import Derived.Test.YtepjhfigkfpheaaDoorChecked
import Derived.WalkKit
import Derived.WalkLawsBesides
import Derived.ProofKit
import Derived.OpenShut
import Derived.Lib.SmallJoins
import Derived.Lib.Hide
import Derived.LoopTactic
import Derived.Deep.OwnRows
import Derived.Deep.Slices
import Derived.Deep.RegionWith
import Derived.Deep.DrawnRows
namespace Go.Proofs.YtepjhfigkfpheaaDoor
open Go.RowKit
attribute [local go_sem ↓] Go.wp_at_zero Go.wp_at_succ

/-- The integers that lie in a block from an offset on. -/
def IS (w : World) (b o n : Nat) (L : Nat → Int) : Prop := ∀ i, i < n → w.cell? ⟨b, o + i, none⟩ = some (.int .i64 (L i))
theorem infoI : (Tryd.prog.info? 2).map (fun i => (i.zero, i.size, i.bytes)) = some (some (.int .i64 0), 1, 8) := by kernel_rfl
theorem IS.row {w : World} {b n : Nat} {E : TypeId} {L : Nat → Int} (h : w.rowIs b E n (fun i => .int .i64 (L i))) : IS w b 0 n L := fun i hi => by rw [Nat.zero_add]; exact h.cell hi

theorem laws_toI (b o n c : Nat) (L : Nat → Int) (hn : n ≤ 1048576) (w : World) (hc : IS w b o n L) (hb : b < w.heap.size) :
    Calls Tryd.prog 8 #[.slice (some ⟨b, o, none⟩) n c] w fun e w' => e = .returned (.slice (some ⟨w.heap.size, 0, none⟩) n n) ∧ w'.rowIs w.heap.size 2 n (fun i => .int .i64 (L i)) ∧ Below w.heap.size w w' := by
  have hmk := run_make_row' (P := Tryd.prog) 22 2 (.int .i64 0) 8 Tryd.underlying22 infoI rfl .i64 .i64 n (by omega) (by omega)
  go_enter Tryd.func8, Tryd.ntmps8
  go_wp2_with fail
  clear hmk
  go_loopw [4] (fun i wr => ∃ k : Nat, k ≤ n ∧ i = .int .i64 k ∧ wr.rowIs w.heap.size 2 n (fun j => if j < k then .int .i64 (L j) else .int .i64 0) ∧ Below w.heap.size w wr) (fun i _ => n - (intOf i).toNat)
  case atStart => exact ⟨0, Nat.zero_le _, rfl, (World.rowIs_made _ _ _ _).congr (fun i _ => by simp), (Below.refl _ _).alloc (Nat.le_refl _) _⟩
  case round =>
    obtain ⟨k, hk, rfl, hrow, hbel⟩ := hrel
    by_cases hlt : k < n
    · have h1 : wr.cell? ⟨b, o + k, none⟩ = some (.int .i64 (L k)) := (hbel.cell (p := ⟨b, o + k, none⟩) hb).trans (hc k hlt)
      have h2 := hrow.cell hlt
      have h3 := hrow.frozen k
      have H := Lib.hid (And.intro hrow hbel)
      clear hrow hbel
      go_wp2_with fail
      go_roundw
      case rel =>
        obtain ⟨hrow, hbel⟩ := H.out
        refine ⟨k + 1, by omega, by go_num, (hrow.set k _).congr ?_, hbel.setCell (Nat.le_refl _) _⟩
        intro j hj
        by_cases e : j = k
        · subst e; simp
        · by_cases l : j < k
          · rw [if_neg e, if_pos l, if_pos (by omega)]
          · rw [if_neg e, if_neg l, if_neg (by omega)]
      case measure => simp [intOf]; omega
    · obtain rfl : k = n := by omega
      have H := Lib.hid (And.intro hrow hbel)
      clear hrow hbel
      go_wp2_with fail
      go_ret
      obtain ⟨hrow, hbel⟩ := H.out
      exact ⟨rfl, hrow.congr (fun j hj => by rw [if_pos hj]), hbel⟩
theorem laws_toI_nil (a : Option Addr) (c : Nat) (w : World) :
    Calls Tryd.prog 8 #[.slice a 0 c] w fun e w' => e = .returned (.slice (some ⟨w.heap.size, 0, none⟩) 0 0) ∧ w'.rowIs w.heap.size 2 0 (fun _ => .int .i64 0) ∧ Below w.heap.size w w' := by
  have hmk : ∀ w : World, (Instr.makeSlice 22 (.int .i64 0) (.int .i64 0)).run Tryd.prog w = .ok (.slice (some ⟨w.heap.size, 0, none⟩) 0 0) (w.alloc (.cells (madeCells #[.int .i64 0] 0) 2)) := run_make_row' (P := Tryd.prog) 22 2 (.int .i64 0) 8 Tryd.underlying22 infoI rfl .i64 .i64 0 (by omega) (by omega)
  go_enter Tryd.func8, Tryd.ntmps8
  go_wp2_with fail
  clear hmk
  go_loopw [4] (fun i wr => i = .int .i64 0 ∧ wr.rowIs w.heap.size 2 0 (fun _ => .int .i64 0) ∧ Below w.heap.size w wr) (fun _ _ => 0)
  case atStart => exact ⟨rfl, World.rowIs_made _ _ _ _, (Below.refl _ _).alloc (Nat.le_refl _) _⟩
  case round =>
    obtain ⟨rfl, hrow, hbel⟩ := hrel
    have H := Lib.hid (And.intro hrow hbel)
    clear hrow hbel
    go_wp2_with fail
    go_ret
    obtain ⟨hrow, hbel⟩ := H.out
    exact ⟨rfl, hrow, hbel⟩

set_option maxRecDepth 100000 in
/-- Two lists of the same integers. -/
theorem laws_eqI (b1 o1 c1 b2 o2 c2 n : Nat) (L M : Nat → Int) (hn : n ≤ 1048576) (w : World) (h1 : IS w b1 o1 n L) (h2 : IS w b2 o2 n M) (hs : ∀ i, i < n → L i = M i) :
    Calls Tryd.prog 10 #[.slice (some ⟨b1, o1, none⟩) n c1, .slice (some ⟨b2, o2, none⟩) n c2] w fun e w' => e = .returned (.bool true) ∧ ∃ m, w' = w.drewN m := by
  go_enter Tryd.func10, Tryd.ntmps10
  go_wp2_with fail
  go_loopw [5] (fun i wr => ∃ k m : Nat, k ≤ n ∧ i = .int .i64 k ∧ wr = w.drewN m) (fun i _ => n - (intOf i).toNat)
  case atStart => exact ⟨0, 0, Nat.zero_le _, rfl, rfl⟩
  case round =>
    obtain ⟨k, m, hk, rfl, rfl⟩ := hrel
    by_cases hlt : k < n
    · have a1 : w.cell? ⟨b1, o1 + k, none⟩ = some (.int .i64 (L k)) := h1 k hlt
      have a2 : w.cell? ⟨b2, o2 + k, none⟩ = some (.int .i64 (L k)) := by rw [hs k hlt]; exact h2 k hlt
      have p0 : (0 : Int) ≤ (k : Int) := by omega
      have p1 : (k : Int) < (n : Int) := by omega
      go_wp2_with fail
      go_region
      go_wp2_with fail
      go_roundw
      case rel => exact ⟨k + 1, m + 1, by omega, by go_num, rfl⟩
      case measure => simp [intOf]; omega
    · obtain rfl : k = n := by omega
      go_wp2_with fail
      go_ret
      exact ⟨rfl, m, rfl⟩
theorem laws_eqI_nil (a1 a2 : Option Addr) (c1 c2 : Nat) (w : World) :
    Calls Tryd.prog 10 #[.slice a1 0 c1, .slice a2 0 c2] w fun e w' => e = .returned (.bool true) ∧ ∃ m, w' = w.drewN m := by
  go_enter Tryd.func10, Tryd.ntmps10
  go_wp2_with fail
  go_loop [5] (fun i => i = .int .i64 0) (fun _ => 0)
  case atStart => rfl
  case round =>
    obtain rfl := hrel
    go_wp2_with fail
    go_ret
    exact ⟨rfl, 0, rfl⟩
theorem IS.below {w w' : World} {b o n : Nat} {L : Nat → Int} (hbel : Below w.heap.size w w') (hb : b < w.heap.size) (h : IS w b o n L) : IS w' b o n L := fun i hi => (hbel.cell (p := ⟨b, o + i, none⟩) hb).trans (h i hi)
theorem lt_below {w w' : World} {b : Nat} (hbel : Below w.heap.size w w') (hb : b < w.heap.size) : b < w'.heap.size := Nat.lt_of_lt_of_le hb hbel.size
/-- A law's argument: a slice of 64-bit integers. -/
def Is_I (v : Value) (W : World) : Prop := (∃ a c, v = .slice a 0 c) ∨ ∃ b o n c L, v = .slice (some ⟨b, o, none⟩) n c ∧ 1 ≤ n ∧ b < W.heap.size ∧ n ≤ c ∧ c ≤ 9223372036854775807 ∧ IS W b o n L
set_option maxRecDepth 100000 in
open Go.ChangeShapes Go.WideShapes Go.Joins Go.Deep in
theorem opened_I {H : Type} {enc : TypeId × Value → H} {W : World} {b0 base : Nat} {spare : Nat → Bool} {held : Bool} {v : Value} {d : DataW H} {p : List MemPlace}
    (hv : Value.okWide Tryd.prog W .any b0 22 v) (h : DataW.Trod enc Tryd.prog W base spare held 22 v d p) : ∃ a, a = v ∧ Is_I a W := by
  refine ⟨v, rfl, ?_⟩
  obtain ⟨a0, len0, cap0, rfl⟩ := okWide_slice Tryd.underlying22 hv
  obtain ⟨m, hm⟩ := h
  rcases open_slice1 Tryd.underlying22 (by kernel_rfl) hm with ⟨hcs, _⟩ | ⟨a, len, cap, m2, n2, V, D, Pl, hcs, _, hl, hmx, hm2, _, hel⟩
  · left
    simp [Value.cells] at hcs
    obtain ⟨rfl, rfl, rfl⟩ := hcs
    exact ⟨_, _, rfl⟩
  · simp [Value.cells] at hcs
    obtain ⟨rfl, rfl, rfl⟩ := hcs
    by_cases h0 : len0 = 0
    · subst h0; exact .inl ⟨_, _, rfl⟩
    · right
      have hlm : len0 ≤ m2 := by rw [hm2]; split <;> omega
      have each : ∀ i, i < len0 → ∃ x, W.cell? (a.add i) = some (.int .i64 x) := fun i hi => by
        obtain ⟨h1, h2⟩ := hel i (by omega)
        obtain ⟨x, e, _⟩ := DataW.trod_int Tryd.underlying2 h2
        simp only [List.cons.injEq, and_true] at e
        exact ⟨x, by rw [h1, e]⟩
      obtain ⟨b, off, spot⟩ := a
      obtain ⟨x0, hx0⟩ := each 0 (by omega)
      have hspot : spot = none := by simpa [Addr.add] using World.cell?_spot hx0
      subst hspot
      have hL : ∃ L : Nat → Int, ∀ i, i < len0 → W.cell? ⟨b, off + i, none⟩ = some (.int .i64 (L i)) := by
        refine ⟨fun i => if h : i < len0 then (each i h).choose else 0, fun i hi => ?_⟩
        simp only [dif_pos hi]
        rw [← add_plain]
        exact (each i hi).choose_spec
      obtain ⟨L, hL⟩ := hL
      refine ⟨b, off, len0, cap0, L, rfl, by omega, ?_, hl, by unfold maxLen at hmx; omega, hL⟩
      have := World.block_lt_of_cell? W _ (hL 0 (by omega)); exact this
end Go.Proofs.YtepjhfigkfpheaaDoor
