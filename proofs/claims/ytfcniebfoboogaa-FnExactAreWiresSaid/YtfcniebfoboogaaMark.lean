/- Marks laid into a wire's points and found again; blocks that stay while another is written. Conditions: as each says. -/
import Derived.Test.YtfcniebfoboogaaSameW
import Derived.Test.YtfcniebfoboogaaFlag
namespace Go.Proofs.Ytfcniebfoboogaa
open Go.RowKit
attribute [local go_sem ↓] Go.wp_at_zero Go.wp_at_succ

/-- Only block B is written. -/
structure Aside (B : Nat) (w w' : World) : Prop where
  os : w'.os = w.os
  tape : w'.tape = w.tape
  output : w'.output = w.output
  size : w.heap.size ≤ w'.heap.size
  block : ∀ k, k < w.heap.size → k ≠ B → w'.heap[k]? = w.heap[k]?
theorem Aside.of (B : Nat) {w w' : World} (h : Below w.heap.size w w') : Aside B w w' := ⟨h.os, h.tape, h.output, h.size, fun k hk _ => h.block k hk⟩
theorem Aside.trans {B : Nat} {a b c : World} (h : Aside B a b) (g : Aside B b c) : Aside B a c :=
  ⟨g.os.trans h.os, g.tape.trans h.tape, g.output.trans h.output, Nat.le_trans h.size g.size, fun k hk hn => (g.block k (Nat.lt_of_lt_of_le hk h.size) hn).trans (h.block k hk hn)⟩
theorem Aside.set {B : Nat} {a w : World} (h : Aside B a w) (i : Nat) (u : Value) : Aside B a (w.setCell ⟨B, i, none⟩ u) :=
  h.trans ⟨rfl, rfl, rfl, by simp [World.setCell], fun k _ hn => Below.heap_setCell _ _ _ _ hn⟩
theorem Aside.below {B N : Nat} {W w w' : World} (h : Below N W w) (g : Aside B w w') (hB : N ≤ B) (hN : N ≤ w.heap.size) : Below N W w' :=
  ⟨g.os.trans h.os, g.tape.trans h.tape, g.output.trans h.output, Nat.le_trans h.size g.size, fun k hk => (g.block k (by omega) (by omega)).trans (h.block k hk)⟩
theorem Aside.cell {B : Nat} {w w' : World} (g : Aside B w w') {b i : Nat} {v : Value} (h : w.cell? ⟨b, i, none⟩ = some v) (hn : b ≠ B) : w'.cell? ⟨b, i, none⟩ = some v :=
  (World.cell?_of_block (w := w) (g.block b (World.block_lt_of_cell? w ⟨b, i, none⟩ h) hn)).trans h

/-- Block B is a row of vectors that can be written; its first n. -/
def WRow (B n : Nat) (P : Nat → Nat) (w : World) : Prop := ∃ N f, n * 3 ≤ N ∧ w.rowIs B 49 N f ∧ ∀ i, i < n * 3 → f i = .float .f32 (P i)
theorem WRow.vs {B n : Nat} {P : Nat → Nat} {w : World} (h : WRow B n P w) : VS w B 0 n P := by
  obtain ⟨N, f, hN, hr, hf⟩ := h
  intro i hi
  rw [Nat.zero_add, hr.cell (by omega), hf i hi]
theorem WRow.lt {B n : Nat} {P : Nat → Nat} {w : World} (h : WRow B n P w) : B < w.heap.size := by
  obtain ⟨N, f, hN, hr, hf⟩ := h
  exact hr.lt
theorem WRow.ofBlock {B n : Nat} {P : Nat → Nat} {w w' : World} (h : WRow B n P w) (e : w'.heap[B]? = w.heap[B]?) : WRow B n P w' := by
  obtain ⟨N, f, hN, hr, hf⟩ := h
  exact ⟨N, f, hN, hr.of_block e, hf⟩
theorem WRow.keep {B n : Nat} {P : Nat → Nat} {w w' : World} (hb : Below w.heap.size w w') (h : WRow B n P w) : WRow B n P w' := h.ofBlock (hb.block _ h.lt)
theorem WRow.aside {B C n : Nat} {P : Nat → Nat} {w w' : World} (g : Aside C w w') (h : WRow B n P w) (hn : B ≠ C) : WRow B n P w' := h.ofBlock (g.block _ h.lt hn)
theorem WRow.row {B n : Nat} {P : Nat → Nat} {w : World} (h : w.rowIs B 49 (n * 3) (fun i => .float .f32 (P i))) : WRow B n P w := ⟨_, _, Nat.le_refl _, h, fun _ _ => rfl⟩
theorem WRow.set {B n : Nat} {P : Nat → Nat} {w : World} (h : WRow B n P w) (i r : Nat) : WRow B n (fun j => if j = i then r else P j) (w.setCell ⟨B, i, none⟩ (.float .f32 r)) := by
  obtain ⟨N, f, hN, hr, hf⟩ := h
  refine ⟨N, _, hN, hr.set i _, fun j hj => ?_⟩
  by_cases e : j = i
  · simp only [if_pos e]
  · simp only [if_neg e]; exact hf j hj
theorem WRow.congr {B n : Nat} {P Q : Nat → Nat} {w : World} (h : WRow B n P w) (e : ∀ j, j < n * 3 → P j = Q j) : WRow B n Q w := by
  obtain ⟨N, f, hN, hr, hf⟩ := h
  exact ⟨N, f, hN, hr, fun j hj => by rw [hf j hj, e j hj]⟩
theorem WRow.frozen {B n : Nat} {P : Nat → Nat} {w : World} (h : WRow B n P w) (i : Nat) : w.frozen? ⟨B, i, none⟩ = false := by
  obtain ⟨N, f, hN, hr, hf⟩ := h
  exact hr.frozen i
/-- The vectors as cells. -/
def vecL (P : Nat → Nat) (n : Nat) : List Value := (List.range (n * 3)).map fun j => .float .f32 (P j)
theorem WRow.owns {w : World} {base g n cap : Nat} {P : Nat → Nat} (h : w.ownsRow base 49 3 (.slice (some ⟨g, 0, none⟩) n cap) n (vecL P n)) : WRow g n P w ∧ base ≤ g := by
  obtain ⟨hl, h⟩ := h
  rcases h with ⟨h, _⟩ | ⟨g', cap', cur, he, hb, hg, hn, hc, hs, ht⟩
  · cases h
  · cases he
    refine ⟨⟨cap * 3, fun i => (cur[i]?).getD (.bool false), by omega, ⟨cur, hg, hs, fun i hi => ?_⟩, fun i hi => ?_⟩, hb⟩
    · simp only [Array.getElem?_eq_getElem (show i < cur.size by omega)]; rfl
    · have e : (cur.toList.take (n * 3))[i]? = (vecL P n)[i]? := by rw [ht]
      rw [List.getElem?_take_of_lt hi] at e
      simp only [vecL, List.getElem?_map, List.getElem?_range hi, Option.map_some, Array.getElem?_toList] at e
      simp only [e]; rfl

/-- The marks from k on. -/
def markP (k j : Nat) : Nat := floatOfInt .f32 ((k + j : Nat) : Int)
theorem markP_num (k j : Nat) : nanB .f32 (markP k j) = false := by
  refine nanB_of_rung (k := .f32) ?_
  show rungAt Ieee.single (Ieee.single.write (.number _ _ 0)) ≤ _
  show rungAt Ieee.single (Ieee.single.nearest _ _ 0) ≤ _
  unfold Ieee.Format.nearest
  split
  · rw [rungAt_word _ _ (by decide)]; exact Nat.zero_le _
  · dsimp only
    rw [rungAt_word _ _ (Nat.lt_of_le_of_lt (Nat.min_le_right _ _) (by decide))]
    exact Nat.min_le_right _ _
def markQ (P : Nat → Nat) (k m j : Nat) : Nat := if j < m * 3 then markP k j else P j
theorem markQ_succ (P : Nat → Nat) (k m : Nat) (j : Nat) : (if j = m * 3 + 2 then markP k (m * 3 + 2) else if j = m * 3 + 1 then markP k (m * 3 + 1) else if j = m * 3 then markP k (m * 3) else markQ P k m j) = markQ P k (m + 1) j := by
  unfold markQ
  by_cases e2 : j = m * 3 + 2
  · subst e2; rw [if_pos rfl, if_pos (by omega)]
  · rw [if_neg e2]
    by_cases e1 : j = m * 3 + 1
    · subst e1; rw [if_pos rfl, if_pos (by omega)]
    · rw [if_neg e1]
      by_cases e0 : j = m * 3
      · subst e0; rw [if_pos rfl, if_pos (by omega)]
      · rw [if_neg e0]
        by_cases l : j < m * 3
        · rw [if_pos l, if_pos (by omega)]
        · rw [if_neg l, if_neg (by omega)]
set_option maxRecDepth 100000 in
theorem laws_markVS (B n c : Nat) (P : Nat → Nat) (hn : n ≤ 1048576) (w : World) (h : WRow B n P w) :
    Calls Try.prog 67 #[.slice (some ⟨B, 0, none⟩) n c, .int .i64 1] w fun e w' => e = .returned (.int .i64 ((n * 3 + 1 : Nat) : Int)) ∧ WRow B n (markP 1) w' ∧ Aside B w w' := by
  have HW := Lib.hid h
  clear h
  go_enter Try.func67, Try.ntmps67
  go_wp2_with fail
  go_loopw [1, 5] (fun k i wr => ∃ m : Nat, m ≤ n ∧ i = .int .i64 m ∧ k = .int .i64 ((m * 3 + 1 : Nat) : Int) ∧ WRow B n (markQ P 1 m) wr ∧ Aside B w wr) (fun _ i _ => n - (intOf i).toNat)
  case atStart => exact ⟨0, Nat.zero_le _, rfl, rfl, HW.out.congr (fun j _ => by unfold markQ; rw [if_neg (by omega)]), Aside.of B (Below.refl _ _)⟩
  case round =>
    obtain ⟨m, hm, rfl, rfl, hrow, has⟩ := hrel
    have H := Lib.hid (And.intro hrow has)
    by_cases hlt : m < n
    · have f0 := hrow.frozen (m * 3)
      have f1 := hrow.frozen (m * 3 + 1)
      have f2 := hrow.frozen (m * 3 + 2)
      obtain ⟨x0, x1, x2⟩ := hrow.vs.three hlt
      simp only [Nat.zero_add] at x0 x1 x2
      have p0 : (0 : Int) ≤ (m : Int) := by omega
      have p1 : (m : Int) < (n : Int) := by omega
      have e0 : floatOfInt .f32 ((m : Int) * 3 + 1) = markP 1 (m * 3) := by unfold markP; congr 1; omega
      have e1 : floatOfInt .f32 ((m : Int) * 3 + 1 + 1) = markP 1 (m * 3 + 1) := by unfold markP; congr 1; omega
      have e2 : floatOfInt .f32 ((m : Int) * 3 + 1 + 1 + 1) = markP 1 (m * 3 + 2) := by unfold markP; congr 1; omega
      clear hrow has
      go_wp2_with fail
      go_roundw
      case rel =>
        obtain ⟨hrow, has⟩ := H.out
        refine ⟨m + 1, by omega, by go_num, by go_num, ?_, ((has.set _ _).set _ _).set _ _⟩
        exact (((hrow.set _ _).set _ _).set _ _).congr (fun j _ => markQ_succ P 1 m j)
      case measure => simp [intOf]; omega
    · obtain rfl : m = n := by omega
      clear hrow has
      go_wp2_with fail
      go_ret
      obtain ⟨hrow, has⟩ := H.out
      exact ⟨rfl, hrow.congr (fun j hj => by unfold markQ; rw [if_pos hj]), has⟩
set_option maxRecDepth 100000 in
theorem laws_heldVS (B n c : Nat) (hn : n ≤ 1048576) (w : World) (h : VS w B 0 n (markP 1)) :
    Calls Try.prog 68 #[.slice (some ⟨B, 0, none⟩) n c, .int .i64 1] w fun e w' => e = .returned (.int .i64 ((n * 3 + 1 : Nat) : Int)) ∧ w = w' := by
  have HW := Lib.hid h
  clear h
  go_enter Try.func68, Try.ntmps68
  go_wp2_with fail
  go_loopw [1, 5] (fun k i wr => ∃ m : Nat, m ≤ n ∧ i = .int .i64 m ∧ k = .int .i64 ((m * 3 + 1 : Nat) : Int) ∧ wr = w) (fun _ i _ => n - (intOf i).toNat)
  case atStart => exact ⟨0, Nat.zero_le _, rfl, rfl, rfl⟩
  case round =>
    obtain ⟨m, hm, rfl, rfl, rfl⟩ := hrel
    by_cases hlt : m < n
    · obtain ⟨x0, x1, x2⟩ := HW.out.three hlt
      simp only [Nat.zero_add] at x0 x1 x2
      have p0 : (0 : Int) ≤ (m : Int) := by omega
      have p1 : (m : Int) < (n : Int) := by omega
      have e0 : floatOfInt .f32 ((m : Int) * 3 + 1) = markP 1 (m * 3) := by unfold markP; congr 1; omega
      have e1 : floatOfInt .f32 ((m : Int) * 3 + 1 + 1) = markP 1 (m * 3 + 1) := by unfold markP; congr 1; omega
      have e2 : floatOfInt .f32 ((m : Int) * 3 + 1 + 1 + 1) = markP 1 (m * 3 + 2) := by unfold markP; congr 1; omega
      have o0 : FloatKind.f32.format.order (markP 1 (m * 3)) (markP 1 (m * 3)) = some .eq := by rw [order_self, markP_num]; rfl
      have o1 : FloatKind.f32.format.order (markP 1 (m * 3 + 1)) (markP 1 (m * 3 + 1)) = some .eq := by rw [order_self, markP_num]; rfl
      have o2 : FloatKind.f32.format.order (markP 1 (m * 3 + 2)) (markP 1 (m * 3 + 2)) = some .eq := by rw [order_self, markP_num]; rfl
      go_wp2_with fail
      go_roundw
      case rel => exact ⟨m + 1, by omega, by go_num, by go_num, trivial⟩
      case measure => simp [intOf]; omega
    · obtain rfl : m = n := by omega
      go_wp2_with fail
      go_ret
      exact ⟨ret_int (by omega), rfl⟩
/-- A result's points: none, or block B. -/
def ResP (a : Option Addr) (n : Nat) (P : Nat → Nat) (B : Nat) (w : World) : Prop := (n = 0 ∧ a = none) ∨ (a = some ⟨B, 0, none⟩ ∧ WRow B n P w)
theorem ResP.keep {a : Option Addr} {n B : Nat} {P : Nat → Nat} {w w' : World} (hb : Below w.heap.size w w') (h : ResP a n P B w) : ResP a n P B w' := by
  rcases h with h | ⟨h, g⟩
  · exact .inl h
  · exact .inr ⟨h, g.keep hb⟩
theorem ResP.aside {a : Option Addr} {n B C : Nat} {P : Nat → Nat} {w w' : World} (hb : Aside C w w') (h : ResP a n P B w) (hn : B ≠ C) : ResP a n P B w' := by
  rcases h with h | ⟨h, g⟩
  · exact .inl h
  · exact .inr ⟨h, g.aside hb hn⟩
theorem ResP.pts {a : Option Addr} {n B : Nat} {P : Nat → Nat} {w : World} (h : ResP a n P B w) : PtsA w a n P := by
  rcases h with h | ⟨h, g⟩
  · exact .inl h.1
  · exact .inr ⟨_, _, h, g.vs, g.lt⟩
theorem PtsA.aside {a : Option Addr} {n C N : Nat} {P : Nat → Nat} {w w' : World} (hb : Aside C w w') (h : PtsA w a n P) (ha : ∀ p, a = some p → p.block < N) (hn : N ≤ C) : PtsA w' a n P := by
  rcases h with h | ⟨b, o, h, g, l⟩
  · exact .inl h
  · have hl : b < N := ha _ h
    exact .inr ⟨b, o, h, fun i hi => hb.cell (g i hi) (by omega), Nat.lt_of_lt_of_le l hb.size⟩
/-- Returns an integer and writes only block B. -/
def MarkPost (a : Option Addr) (n B : Nat) (w : World) (e : Ending) (w' : World) : Prop := e = .returned (.int .i64 ((n * 3 + 1 : Nat) : Int)) ∧ ResP a n (markP 1) B w' ∧ Aside B w w'
theorem laws_markVS0 (a : Option Addr) (c : Nat) (w : World) :
    Calls Try.prog 67 #[.slice a 0 c, .int .i64 1] w fun e w' => e = .returned (.int .i64 1) ∧ w = w' := by
  go_enter Try.func67, Try.ntmps67
  go_wp2_with fail
  go_loopw [1, 5] (fun k i wr => i = .int .i64 0 ∧ k = .int .i64 1 ∧ wr = w) (fun _ _ _ => 0)
  case atStart => exact ⟨rfl, rfl, rfl⟩
  case round =>
    obtain ⟨rfl, rfl, rfl⟩ := hrel
    go_wp2_with fail
    go_ret
    exact ⟨rfl, rfl⟩
theorem laws_heldVS0 (a : Option Addr) (c : Nat) (w : World) :
    Calls Try.prog 68 #[.slice a 0 c, .int .i64 1] w fun e w' => e = .returned (.int .i64 1) ∧ w = w' := by
  go_enter Try.func68, Try.ntmps68
  go_wp2_with fail
  go_loopw [1, 5] (fun k i wr => i = .int .i64 0 ∧ k = .int .i64 1 ∧ wr = w) (fun _ _ _ => 0)
  case atStart => exact ⟨rfl, rfl, rfl⟩
  case round =>
    obtain ⟨rfl, rfl, rfl⟩ := hrel
    go_wp2_with fail
    go_ret
    exact ⟨rfl, rfl⟩
theorem laws_markWire (a : Option Addr) (n c cu B : Nat) (cl : Bool) (P : Nat → Nat) (hn : n ≤ 1048576) (w : World) (h : ResP a n P B w) :
    Calls Try.prog 26 #[wireV (.slice a n c) cl cu, .int .i64 1] w (MarkPost a n B w) := by
  rcases h with ⟨rfl, rfl⟩ | ⟨rfl, h⟩
  · go_enter Try.func26, Try.ntmps26
    go_wp2_with fail
    refine (laws_markVS0 _ _ _).mono ?_
    rintro e w' ⟨rfl, rfl⟩
    go_wp2_with fail
    go_ret
    exact ⟨rfl, .inl ⟨rfl, rfl⟩, Aside.of _ (belowAlloc (Below.refl _ _) _)⟩
  · have H := Lib.hid h
    clear h
    go_enter Try.func26, Try.ntmps26
    go_wp2_with fail
    refine (laws_markVS B n c P hn _ (H.out.keep (belowAlloc (Below.refl _ _) _))).mono ?_
    rintro e w' ⟨rfl, hr, has⟩
    have H2 := Lib.hid (And.intro hr has)
    clear hr has
    go_wp2_with fail
    go_ret
    exact ⟨rfl, .inr ⟨rfl, H2.out.1⟩, (Aside.of B (belowAlloc (Below.refl _ _) _)).trans H2.out.2⟩
/-- Returns how many marks were found. -/
def HeldPost (n : Nat) (w : World) (e : Ending) (w' : World) : Prop := e = .returned (.int .i64 ((n * 3 + 1 : Nat) : Int)) ∧ Below w.heap.size w w'
theorem laws_heldWire (a : Option Addr) (n c cu B : Nat) (cl : Bool) (hn : n ≤ 1048576) (w : World) (h : ResP a n (markP 1) B w) :
    Calls Try.prog 27 #[wireV (.slice a n c) cl cu, .int .i64 1] w (HeldPost n w) := by
  have p1 : decide ((n : Int) * 3 + 1 < 0) = false := decide_eq_false (by omega)
  rcases h with ⟨rfl, rfl⟩ | ⟨rfl, h⟩
  · go_enter Try.func27, Try.ntmps27
    go_wp2_with fail
    refine (laws_heldVS0 _ _ _).mono ?_
    rintro e w' ⟨rfl, rfl⟩
    go_wp2_with fail
    go_ret
    exact ⟨rfl, belowAlloc (Below.refl _ _) _⟩
  · have H := Lib.hid h
    clear h
    go_enter Try.func27, Try.ntmps27
    go_wp2_with fail
    refine (laws_heldVS B n c hn _ (WRow.vs (H.out.keep (belowAlloc (Below.refl _ _) _)))).mono ?_
    rintro e w' ⟨rfl, rfl⟩
    go_wp2_with fail
    go_ret
    exact ⟨rfl, belowAlloc (Below.refl _ _) _⟩
theorem laws_eqVS0 (a b : Option Addr) (c d : Nat) (w : World) :
    Calls Try.prog 54 #[.slice a 0 c, .slice b 0 d] w fun e w' => e = .returned (.bool true) ∧ Below w.heap.size w w' := by
  go_enter Try.func54, Try.ntmps54
  go_wp2_with fail
  go_loopw [5] (fun i wr => i = .int .i64 0 ∧ wr = w) (fun _ _ => 0)
  case atStart => exact ⟨rfl, rfl⟩
  case round =>
    obtain ⟨rfl, rfl⟩ := hrel
    go_wp2_with fail
    go_ret
    exact ⟨rfl, Below.refl _ _⟩
theorem laws_eqVSA (a b : Option Addr) (c d n : Nat) (P : Nat → Nat) (hn : n ≤ 1048576) (w : World) (h1 : PtsA w a n P) (h2 : PtsA w b n P) :
    Calls Try.prog 54 #[.slice a n c, .slice b n d] w fun e w' => e = .returned (.bool true) ∧ Below w.heap.size w w' := by
  rcases h1 with rfl | ⟨b1, o1, rfl, v1, l1⟩
  · exact laws_eqVS0 a b c d w
  · rcases h2 with rfl | ⟨b2, o2, rfl, v2, l2⟩
    · exact laws_eqVS0 _ _ c d w
    · exact laws_eqVS b1 o1 c b2 o2 d n P P P hn w v1 v2 l1 l2 (fun _ _ => ⟨Same.refl _ _, Same.refl _ _⟩)
theorem laws_eqWireA (a b : Option Addr) (c d n cu : Nat) (cl : Bool) (P : Nat → Nat) (hn : n ≤ 1048576) (w : World) (h1 : PtsA w a n P) (h2 : PtsA w b n P) :
    Calls Try.prog 19 #[wireV (.slice a n c) cl cu, wireV (.slice b n d) cl cu] w (BoolIs true w) := by
  have H1 := Lib.hid h1
  have H2 := Lib.hid h2
  have cc : (cl != cl) = false := by simp
  have hu1 : Same .f32 cu cu := Same.refl _ _
  clear h1 h2
  go_enter Try.func19, Try.ntmps19
  go_wp2_with fail
  refine (laws_eqVSA a b c d n P hn _ ?_ ?_).mono ?_
  · exact PtsA.keep (belowAlloc (belowAlloc (Below.refl _ _) _) _) H1.out
  · exact PtsA.keep (belowAlloc (belowAlloc (Below.refl _ _) _) _) H2.out
  rintro e w1 ⟨rfl, hbel⟩
  obtain ⟨h0, _⟩ := bcell hbel
  have hb3 := Lib.hid (belowNext (belowAlloc (belowAlloc (Below.refl w.heap.size w) _) _) hbel)
  clear hbel
  go_wp2_with (first | (refine wpList_wide some32 Try.underlying68 rfl rfl rfl ?_; intro _ _ _) | (go_at_call 55; refine (sameFloat_of (by assumption) (by assumption) (by assumption) (by assumption) _).mono ?_; rintro e w' ⟨rfl, n, rfl⟩))
  go_ret
  exact ⟨rfl, below_drewN hb3.out _⟩
/-- Gives a wire with points of its own, and a flag. -/
def GiveW (n : Nat) (cl : Bool) (cu : Nat) (b : Bool) (P : Nat → Nat) (w : World) (e : Ending) (w' : World) : Prop :=
  ∃ a c B, e = .returned (.tuple #[wireV (.slice a n c) cl cu, .bool b]) ∧ ResP a n P B w' ∧ w.heap.size ≤ B ∧ B < w'.heap.size ∧ Below w.heap.size w w'
/-- What is given where the flag says so, else nothing. -/
def gN (b : Bool) (n : Nat) : Nat := if b then n else 0
def gC (b : Bool) (cl : Bool) : Bool := if b then cl else false
theorem gN_le {b : Bool} {n N : Nat} (h : b = true → n ≤ N) : gN b n ≤ N := by
  unfold gN
  split
  · rename_i e; exact h e
  · exact Nat.zero_le _
/-- A wire in a box. -/
def Box3 (g : Nat) (a : Option Addr) (n c : Nat) (cl : Bool) (cu : Nat) (w : World) : Prop := w.cell? ⟨g, 0, none⟩ = some (.slice a n c) ∧ w.cell? ⟨g, 1, none⟩ = some (.bool cl) ∧ w.cell? ⟨g, 2, none⟩ = some (.float .f32 cu)
theorem Box3.keep {g n c cu : Nat} {cl : Bool} {a : Option Addr} {w w' : World} (hb : Below w.heap.size w w') (h : Box3 g a n c cl cu w) : Box3 g a n c cl cu w' := ⟨cellKeep hb h.1, cellKeep hb h.2.1, cellKeep hb h.2.2⟩
theorem Box3.aside {g n c cu B : Nat} {cl : Bool} {a : Option Addr} {w w' : World} (hb : Aside B w w') (h : Box3 g a n c cl cu w) (hn : g ≠ B) : Box3 g a n c cl cu w' := ⟨hb.cell h.1 hn, hb.cell h.2.1 hn, hb.cell h.2.2 hn⟩
theorem Box3.new {n c cu : Nat} {cl : Bool} {a : Option Addr} {w w' : World} {t : TypeId} (hb : Below (w.alloc (.cells #[.slice a n c, .bool cl, .float .f32 cu] t)).heap.size (w.alloc (.cells #[.slice a n c, .bool cl, .float .f32 cu] t)) w') : Box3 w.heap.size a n c cl cu w' :=
  ⟨(newCells hb).1, (newCells hb).2.1, (newCells hb).2.2.1⟩
/-- Two results in boxes: the reference's and the program's. -/
def LG (W : World) (n : Nat) (cl : Bool) (cu : Nat) (P Q : Nat → Nat) (p0 : Option Addr) (c0 B0 b0 : Nat) (p1 : Option Addr) (c1 B1 b1 : Nat) (w : World) : Prop :=
  Box3 b0 p0 n c0 cl cu w ∧ Box3 b1 p1 n c1 cl cu w ∧ ResP p0 n P B0 w ∧ ResP p1 n Q B1 w ∧ Below W.heap.size W w ∧ W.heap.size ≤ B1 ∧ B0 < b0 ∧ b0 < B1 ∧ B1 < b1
section
variable {W w w' : World} {n cu c0 B0 b0 c1 B1 b1 : Nat} {cl : Bool} {P Q : Nat → Nat} {p0 p1 : Option Addr}
theorem LG.keep (hb : Below w.heap.size w w') (h : LG W n cl cu P Q p0 c0 B0 b0 p1 c1 B1 b1 w) : LG W n cl cu P Q p0 c0 B0 b0 p1 c1 B1 b1 w' := by
  obtain ⟨h0, h1, h2, h3, h4, h5⟩ := h
  exact ⟨h0.keep hb, h1.keep hb, h2.keep hb, h3.keep hb, belowNext h4 hb, h5⟩
theorem LG.marked (hb : Aside B1 w w') (hr : ResP p1 n (markP 1) B1 w') (h : LG W n cl cu P Q p0 c0 B0 b0 p1 c1 B1 b1 w) : LG W n cl cu P (markP 1) p0 c0 B0 b0 p1 c1 B1 b1 w' := by
  obtain ⟨h0, h1, h2, h3, h4, h5, h6, h7, h8⟩ := h
  exact ⟨h0.aside hb (by omega), h1.aside hb (by omega), h2.aside hb (by omega), hr, Aside.below h4 hb h5 h4.size, h5, h6, h7, h8⟩
theorem LG.start {w1 w2 w3 : World} {t : TypeId} (r0 : ResP p0 n P B0 w1) (m0 : B0 < w1.heap.size) (bw : Below W.heap.size W w1)
    (bel : Below (w1.alloc (.cells #[.slice p0 n c0, .bool cl, .float .f32 cu] t)).heap.size (w1.alloc (.cells #[.slice p0 n c0, .bool cl, .float .f32 cu] t)) w2)
    (r1 : ResP p1 n Q B1 w2) (l1 : (w1.alloc (.cells #[.slice p0 n c0, .bool cl, .float .f32 cu] t)).heap.size ≤ B1) (m1 : B1 < w2.heap.size)
    (bel2 : Below (w2.alloc (.cells #[.slice p1 n c1, .bool cl, .float .f32 cu] t)).heap.size (w2.alloc (.cells #[.slice p1 n c1, .bool cl, .float .f32 cu] t)) w3) : LG W n cl cu P Q p0 c0 B0 w1.heap.size p1 c1 B1 w2.heap.size w3 := by
  have al : ∀ w : World, ∀ o, Below w.heap.size w (w.alloc o) := fun w o => belowAlloc (Below.refl _ _) _
  simp only [World.size_alloc] at l1
  have := bw.size
  exact ⟨((Box3.new bel).keep (al _ _)).keep bel2, Box3.new bel2, (((r0.keep (al _ _)).keep bel).keep (al _ _)).keep bel2, (r1.keep (al _ _)).keep bel2, belowNext (belowAlloc (belowNext (belowAlloc bw _) bel) _) bel2, by omega, m0, by omega, m1⟩
end
end Go.Proofs.Ytfcniebfoboogaa
