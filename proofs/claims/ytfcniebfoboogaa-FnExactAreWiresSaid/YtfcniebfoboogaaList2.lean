/- Lists of wires: how they are opened, copied, measured and compared. Conditions: as each says. -/
import Derived.Test.YtfcniebfoboogaaMark
namespace Go.Proofs.Ytfcniebfoboogaa
open Go.RowKit
attribute [local go_sem ↓] Go.wp_at_zero Go.wp_at_succ

/-- A wire of a law's list. -/
structure WD where
  a : Option Addr
  n : Nat
  c : Nat
  cu : Nat
  cl : Bool
  P : Nat → Nat
def WCells (w : World) (b o : Nat) (d : WD) : Prop := w.cell? ⟨b, o, none⟩ = some (.slice d.a d.n d.c) ∧ w.cell? ⟨b, o + 1, none⟩ = some (.bool d.cl) ∧ w.cell? ⟨b, o + 2, none⟩ = some (.float .f32 d.cu)
/-- The law's list lies in memory. -/
def ListW (w : World) (A : Option Addr) (m : Nat) (D : Nat → WD) : Prop := m = 0 ∨ ∃ b o, A = some ⟨b, o, none⟩ ∧ ∀ i, i < m → WCells w b (o + i * 3) (D i) ∧ PtsA w (D i).a (D i).n (D i).P
section
variable {w w' wr : World} {A : Option Addr} {m b o B k : Nat} {D : Nat → WD} {d : WD}
theorem WCells.keep (hb : Below w.heap.size w w') (h : WCells w b o d) : WCells w' b o d := ⟨cellKeep hb h.1, cellKeep hb h.2.1, cellKeep hb h.2.2⟩
theorem ListW.keep (hb : Below w.heap.size w w') (h : ListW w A m D) : ListW w' A m D := by
  rcases h with h | ⟨b, o, e, h⟩
  · exact .inl h
  · exact .inr ⟨b, o, e, fun i hi => ⟨(h i hi).1.keep hb, (h i hi).2.keep hb⟩⟩
/-- A law's argument: a list of wires. -/
def Is_L (v : Value) (W : World) : Prop := ∃ A m c D, v = .slice A m c ∧ m ≤ 9223372036854775807 ∧ ListW W A m D ∧ ∀ i, (D i).n ≤ 9223372036854775807
/-- A copy's wire. -/
def CopyAt (w : World) (B i : Nat) (d : WD) (X : Nat) : Prop :=
  w.cell? ⟨B, i * 3, none⟩ = some (.slice (some ⟨X, 0, none⟩) d.n d.n) ∧ w.cell? ⟨B, i * 3 + 1, none⟩ = some (.bool d.cl) ∧ w.cell? ⟨B, i * 3 + 2, none⟩ = some (.float .f32 d.cu) ∧ VS w X 0 d.n d.P ∧ X < w.heap.size
/-- A copy of the law's list. -/
def CopyL (w : World) (B m : Nat) (D : Nat → WD) : Prop := ∀ i, i < m → ∃ X, CopyAt w B i (D i) X
theorem CopyAt.keep {i X : Nat} (hb : Below w.heap.size w w') (h : CopyAt w B i d X) : CopyAt w' B i d X := ⟨cellKeep hb h.1, cellKeep hb h.2.1, cellKeep hb h.2.2.1, VS.keep hb h.2.2.2.1, Nat.lt_of_lt_of_le h.2.2.2.2 hb.size⟩
theorem CopyL.keep (hb : Below w.heap.size w w') (h : CopyL w B m D) : CopyL w' B m D := fun i hi => (h i hi).imp fun _ g => g.keep hb
/-- The first k wires are copied into block B, which can be written. -/
def RelT (B m k : Nat) (D : Nat → WD) (wr : World) : Prop := ∃ f : Nat → Value, wr.rowIs B 30 (m * 3) f ∧
  ∀ i, i < k → ∃ X, f (i * 3) = .slice (some ⟨X, 0, none⟩) (D i).n (D i).n ∧ f (i * 3 + 1) = .bool (D i).cl ∧ f (i * 3 + 2) = .float .f32 (D i).cu ∧ VS wr X 0 (D i).n (D i).P ∧ X < wr.heap.size ∧ X ≠ B
theorem RelT.keep (hb : Below wr.heap.size wr w') (h : RelT B m k D wr) : RelT B m k D w' := by
  obtain ⟨f, hr, hf⟩ := h
  refine ⟨f, hr.of_block (hb.block _ hr.lt), fun i hi => ?_⟩
  obtain ⟨X, h0, h1, h2, h3, h4, h5⟩ := hf i hi
  exact ⟨X, h0, h1, h2, VS.keep hb h3, Nat.lt_of_lt_of_le h4 hb.size, h5⟩
theorem VS.setOther {X o n g i : Nat} {P : Nat → Nat} {u : Value} (h : VS w X o n P) (hn : X ≠ g) : VS (w.setCell ⟨g, i, none⟩ u) X o n P := fun j hj => cellAt (h j hj) hn
theorem RelT.step {Y : Nat} (hk : k < m) (h : RelT B m k D wr) (hY : VS wr Y 0 (D k).n (D k).P) (hl : Y < wr.heap.size) (hn : Y ≠ B) :
    RelT B m (k + 1) D (((wr.setCell ⟨B, k * 3, none⟩ (.slice (some ⟨Y, 0, none⟩) (D k).n (D k).n)).setCell ⟨B, k * 3 + 1, none⟩ (.bool (D k).cl)).setCell ⟨B, k * 3 + 2, none⟩ (.float .f32 (D k).cu)) := by
  obtain ⟨f, hr, hf⟩ := h
  refine ⟨_, ((hr.set (k * 3) _).set (k * 3 + 1) _).set (k * 3 + 2) _, fun i hi => ?_⟩
  by_cases e : i = k
  · subst e
    refine ⟨Y, ?_, ?_, ?_, ((hY.setOther hn).setOther hn).setOther hn, by simpa using hl, hn⟩
    · simp
    · simp
    · simp
  · obtain ⟨X, h0, h1, h2, h3, h4, h5⟩ := hf i (by omega)
    refine ⟨X, ?_, ?_, ?_, ((h3.setOther h5).setOther h5).setOther h5, by simpa using h4, h5⟩
    · simp only [if_neg (show ¬ i * 3 = k * 3 + 2 by omega), if_neg (show ¬ i * 3 = k * 3 + 1 by omega), if_neg (show ¬ i * 3 = k * 3 by omega), h0]
    · simp only [if_neg (show ¬ i * 3 + 1 = k * 3 + 2 by omega), if_neg (show ¬ i * 3 + 1 = k * 3 + 1 by omega), if_neg (show ¬ i * 3 + 1 = k * 3 by omega), h1]
    · simp only [if_neg (show ¬ i * 3 + 2 = k * 3 + 2 by omega), if_neg (show ¬ i * 3 + 2 = k * 3 + 1 by omega), if_neg (show ¬ i * 3 + 2 = k * 3 by omega), h2]
theorem RelT.copy (h : RelT B m m D wr) : CopyL wr B m D := by
  obtain ⟨f, hr, hf⟩ := h
  intro i hi
  obtain ⟨X, h0, h1, h2, h3, h4, _⟩ := hf i hi
  exact ⟨X, by rw [hr.cell (by omega), h0], by rw [hr.cell (by omega), h1], by rw [hr.cell (by omega), h2], h3, h4⟩
/-- How much the wires hold, one by one. -/
def tot (D : Nat → WD) : Nat → Nat
  | 0 => 0
  | k + 1 => tot D k + (D k).n
theorem tot_succ (k : Nat) : tot D (k + 1) = tot D k + (D k).n := rfl
theorem tot_le {k m : Nat} (h : k ≤ m) : tot D k ≤ tot D m := by
  induction m with
  | zero => rw [Nat.le_zero.1 h]; exact Nat.le_refl _
  | succ m ih =>
    by_cases e : k = m + 1
    · rw [e]; exact Nat.le_refl _
    · have := ih (by omega)
      rw [tot_succ]; omega
theorem tot_each {i m : Nat} (h : i < m) : (D i).n ≤ tot D m := by
  have := tot_le (D := D) (show i + 1 ≤ m from h)
  rw [tot_succ] at this; omega
def fitsB (D : Nat → WD) (m : Nat) : Bool := decide (m + tot D m ≤ 1048576)
def SzPost (D : Nat → WD) (m : Nat) (w : World) (e : Ending) (w' : World) : Prop := ∃ r : Int, e = .returned (.int .i64 r) ∧ decide (r < 0) = !fitsB D m ∧ Below w.heap.size w w'
def NewList (m : Nat) (D : Nat → WD) (w : World) (e : Ending) (w' : World) : Prop := ∃ B, e = .returned (.slice (some ⟨B, 0, none⟩) m m) ∧ CopyL w' B m D ∧ Below w.heap.size w w'
/-- All wires are valid. -/
def allOk (D : Nat → WD) : Nat → Bool
  | 0 => true
  | k + 1 => allOk D k && validB (D k).P (D k).n (D k).cu
theorem allOk_no {k : Nat} (h : validB (D k).P (D k).n (D k).cu = false) : ∀ {n : Nat}, k < n → allOk D n = false := by
  intro n
  induction n with
  | zero => intro h; omega
  | succ n ih =>
    intro hk
    unfold allOk
    by_cases e : k = n
    · subst e; rw [h, Bool.and_false]
    · rw [ih (by omega), Bool.false_and]
def areB (D : Nat → WD) (m : Nat) : Bool := decide (m ≤ 8) && allOk D m
end
theorem infoW : (Try.prog.info? 30).map (fun i => (i.zero, i.size, i.bytes)) = some (some (wireV (.slice none 0 0) false 0), 3, 32) := by kernel_rfl
theorem madeW (n : Nat) (w : World) : ∃ f, (w.alloc (.cells (madeCells #[.slice none 0 0, .bool false, .float .f32 0] (n * 3)) 30)).rowIs w.heap.size 30 (n * 3) f :=
  ⟨fun i => ((madeCells #[.slice none 0 0, .bool false, .float .f32 0] (n * 3))[i]?).getD (.bool false), _, Go.Deep.blk_alloc_new _ _, size_madeCells _ _, fun i hi => by
    simp only [Array.getElem?_eq_getElem (show i < (madeCells #[.slice none 0 0, .bool false, .float .f32 0] (n * 3)).size by rw [size_madeCells]; exact hi)]; rfl⟩
theorem make_W (n : Nat) (hn : n ≤ 1048576) (w : World) : (Instr.makeSlice 44 (.int .i64 (n : Int)) (.int .i64 (n : Int))).run Try.prog w = .ok (.slice (some ⟨w.heap.size, 0, none⟩) n n) (w.alloc (.cells (madeCells #[.slice none 0 0, .bool false, .float .f32 0] (n * 3)) 30)) := by
  obtain ⟨i, hi, hzz⟩ := Option.map_eq_some_iff.1 infoW
  simp only [Prod.mk.injEq] at hzz
  obtain ⟨hz, hs, hb⟩ := hzz
  have hr := run_make (P := Try.prog) w 44 30 i (wireV (.slice none 0 0) false 0) Try.underlying44 hi hz .i64 .i64 n n (by omega) (by omega) (by rw [hb]; omega) (by omega)
  simp only [Int.toNat_natCast, hs] at hr
  exact hr
theorem laws_szWS (A : Option Addr) (m c : Nat) (D : Nat → WD) (hm : m ≤ 9223372036854775807) (hn : ∀ i, (D i).n ≤ 9223372036854775807) (w : World) (h : ListW w A m D) :
    Calls Try.prog 28 #[.slice A m c, .int .i64 1048576] w (SzPost D m w) := by
  have HL := Lib.hid h
  have HN := Lib.hid hn
  clear h hn
  by_cases h1 : m ≤ 1048576
  · have t1 : decide ((1048576 : Int) - (m : Int) < 0) = false := decide_eq_false (by omega)
    go_enter Try.func28, Try.ntmps28
    go_wp2_with fail
    clear t1
    go_loopw [1, 5] (fun l i wr => ∃ k q : Nat, k ≤ m ∧ i = .int .i64 k ∧ q + (m + tot D k) = 1048576 ∧ l = .int .i64 (q : Int) ∧ Below w.heap.size w wr) (fun _ i _ => m - (intOf i).toNat)
    case atStart => exact ⟨0, 1048576 - m, Nat.zero_le _, rfl, by unfold tot; omega, by congr 1; omega, Below.refl _ _⟩
    case round =>
      obtain ⟨k, q, hk, rfl, hq, rfl, hbel⟩ := hrel
      have HQ := Lib.hid hq
      have q1 : q ≤ 1048576 := by omega
      have HB := Lib.hid hbel
      clear hq
      by_cases hlt : k < m
      · rcases HL.out with h0 | ⟨b, o, rfl, hl⟩
        · omega
        obtain ⟨c0, c1, c2⟩ := (hl k hlt).1.keep hbel
        clear hbel hl
        by_cases hnk : (D k).n ≤ q
        · have hneg : decide ((q : Int) - ((D k).n : Int) < 0) = false := decide_eq_false (by omega)
          go_wp2_with (first | (go_at_call 15; refine (laws_szWireL _ _ _ _ q _ hnk q1 _).mono ?_; rintro e w1 ⟨rfl, hb1⟩; have HB1 := Lib.hid (belowNext HB.out hb1); clear hb1))
          go_roundw
          case rel => exact ⟨k + 1, q - (D k).n, by omega, by go_num, by have := HQ.out; rw [tot_succ]; omega, by congr 1; omega, HB1.out⟩
          case measure => simp [intOf]; omega
        · go_wp2_with (first | (go_at_call 15; refine (laws_szWireL_no _ _ _ _ q _ hnk q1 (HN.out k) _).mono ?_; rintro e w1 ⟨rfl, hb1⟩; have HB1 := Lib.hid (belowNext HB.out hb1); clear hb1))
          go_ret
          refine ⟨_, rfl, ?_, HB1.out⟩
          have h2 := tot_le (D := D) (show k + 1 ≤ m from hlt)
          have h3 := HQ.out
          have : fitsB D m = false := by unfold fitsB; rw [tot_succ] at h2; exact decide_eq_false (by omega)
          rw [this]; rfl
      · obtain rfl : k = m := by omega
        clear hbel
        go_wp2_with fail
        go_ret
        refine ⟨_, rfl, ?_, HB.out⟩
        have h3 := HQ.out
        have : fitsB D k = true := by unfold fitsB; exact decide_eq_true (by omega)
        rw [this]
        exact decide_eq_false (by omega)
  · have t1 : decide ((1048576 : Int) - (m : Int) < 0) = true := decide_eq_true (by omega)
    go_enter Try.func28, Try.ntmps28
    go_wp2_with fail
    go_ret
    refine ⟨_, rfl, ?_, Below.refl _ _⟩
    have : fitsB D m = false := by unfold fitsB; exact decide_eq_false (by omega)
    rw [this]; rfl
set_option maxRecDepth 100000 in
theorem laws_toWS (A : Option Addr) (m c : Nat) (D : Nat → WD) (hm : m ≤ 1048576) (hn : ∀ i, i < m → (D i).n ≤ 1048576) (w : World) (h : ListW w A m D) :
    Calls Try.prog 30 #[.slice A m c] w (NewList m D w) := by
  have HL := Lib.hid h
  have HN := Lib.hid hn
  have hmk := make_W m hm
  obtain ⟨f0, hf0⟩ := madeW m w
  have HF := Lib.hid hf0
  clear h hn hf0
  go_enter Try.func30, Try.ntmps30
  go_wp2_with fail
  clear hmk
  go_loopw [4] (fun i wr => ∃ k : Nat, k ≤ m ∧ i = .int .i64 k ∧ RelT w.heap.size m k D wr ∧ Below w.heap.size w wr) (fun i _ => m - (intOf i).toNat)
  case atStart => exact ⟨0, Nat.zero_le _, rfl, ⟨f0, HF.out, fun i hi => by omega⟩, (Below.refl _ _).alloc (Nat.le_refl _) _⟩
  case round =>
    obtain ⟨k, hk, rfl, hr, hbel⟩ := hrel
    have HR := Lib.hid hr
    have HB := Lib.hid hbel
    clear hr
    by_cases hlt : k < m
    · rcases HL.out with h0 | ⟨b, o, rfl, hl⟩
      · omega
      have hlk := hl k hlt
      obtain ⟨c0, c1, c2⟩ : WCells wr b (o + k * 3) (D k) := ⟨(hbel.cell (World.block_lt_of_cell? _ _ hlk.1.1)).trans hlk.1.1, (hbel.cell (World.block_lt_of_cell? _ _ hlk.1.2.1)).trans hlk.1.2.1, (hbel.cell (World.block_lt_of_cell? _ _ hlk.1.2.2)).trans hlk.1.2.2⟩
      have hpt : PtsA wr (D k).a (D k).n (D k).P := by
        rcases hlk.2 with h | ⟨b', o', e, hv, hs⟩
        · exact .inl h
        · exact .inr ⟨b', o', e, VS.below hbel hs hv, Nat.lt_of_lt_of_le hs hbel.size⟩
      have HP := Lib.hid hpt
      clear hbel hl hlk hpt
      go_wp2_with fail
      refine (laws_toWireA (D k).a (D k).n (D k).c (D k).cu (D k).cl (D k).P (HN.out k hlt) _ HP.out).mono ?_
      rintro e w1 ⟨Y, rfl, row, hY, hb1⟩
      have hr1 := HR.out.keep hb1
      have hvY : VS w1 Y 0 (D k).n (D k).P := VS.row row
      have hlY : Y < w1.heap.size := row.lt
      have hne : Y ≠ w.heap.size := by
        obtain ⟨_, hr0, _⟩ := HR.out
        have := hr0.lt
        omega
      have H1 := Lib.hid (And.intro hr1 (And.intro hvY (And.intro hlY hne)))
      have HB1 := Lib.hid (belowNext HB.out hb1)
      obtain ⟨f, hrow1, _⟩ := hr1
      have g1 := hrow1.cell (i := k * 3) (by omega)
      have g2 := hrow1.cell (i := k * 3 + 1) (by omega)
      have g3 := hrow1.cell (i := k * 3 + 2) (by omega)
      have f1 := hrow1.frozen (k * 3)
      have f2 := hrow1.frozen (k * 3 + 1)
      have f3 := hrow1.frozen (k * 3 + 2)
      clear hrow1 hb1 row hY hvY hlY hne c0 c1 c2
      go_wp2_with fail
      go_roundw
      case rel =>
        obtain ⟨hr1, hvY, hlY, hne⟩ := H1.out
        exact ⟨k + 1, by omega, by go_num, RelT.step hlt hr1 hvY hlY hne, ((HB1.out.setCell (Nat.le_refl _) _).setCell (Nat.le_refl _) _).setCell (Nat.le_refl _) _⟩
      case measure => simp [intOf]; omega
    · obtain rfl : k = m := by omega
      clear hbel
      go_wp2_with fail
      go_ret
      exact ⟨_, rfl, HR.out.copy, HB.out⟩
end Go.Proofs.Ytfcniebfoboogaa
