/- The source of choices: bytes, then a simple sequence. Each call writes only the source's own block. Conditions: as each says. -/
import Derived.Test.YtcmmafkmfahijaaLocV
import Derived.Deep.QuietTactic
import Derived.BigQuiet
namespace Go.Proofs.Ytcmmafkmfahijaa
open Go.RowKit

/-- Only block B is written. -/
structure Aside (B : Nat) (w w' : World) : Prop where
  os : w'.os = w.os
  tape : w'.tape = w.tape
  output : w'.output = w.output
  size : w.heap.size ≤ w'.heap.size
  block : ∀ k, k < w.heap.size → k ≠ B → w'.heap[k]? = w.heap[k]?
section
variable {B N : Nat} {W w w' w1 w2 w3 : World}
theorem Aside.of (B : Nat) (h : Below w.heap.size w w') : Aside B w w' := ⟨h.os, h.tape, h.output, h.size, fun k hk _ => h.block k hk⟩
theorem Aside.refl (B : Nat) (w : World) : Aside B w w := Aside.of B (Below.refl _ _)
theorem Aside.trans (h : Aside B w1 w2) (g : Aside B w2 w3) : Aside B w1 w3 :=
  ⟨g.os.trans h.os, g.tape.trans h.tape, g.output.trans h.output, Nat.le_trans h.size g.size, fun k hk hn => (g.block k (Nat.lt_of_lt_of_le hk h.size) hn).trans (h.block k hk hn)⟩
theorem Aside.set (h : Aside B w w1) (i : Nat) (u : Value) : Aside B w (w1.setCell ⟨B, i, none⟩ u) :=
  h.trans ⟨rfl, rfl, rfl, by simp [World.setCell], fun k _ hn => Below.heap_setCell _ _ _ _ hn⟩
theorem Aside.drewN (h : Aside B w w1) (n : Nat) : Aside B w (w1.drewN n) := ⟨h.os, h.tape, h.output, h.size, h.block⟩
theorem Aside.below (h : Below N W w) (g : Aside B w w') (hB : N ≤ B) (hN : N ≤ w.heap.size) : Below N W w' :=
  ⟨g.os.trans h.os, g.tape.trans h.tape, g.output.trans h.output, Nat.le_trans h.size g.size, fun k hk => (g.block k (by omega) (by omega)).trans (h.block k hk)⟩
theorem Aside.cell (g : Aside B w w') {b i : Nat} {v : Value} (h : w.cell? ⟨b, i, none⟩ = some v) (hn : b ≠ B) : w'.cell? ⟨b, i, none⟩ = some v :=
  (World.cell?_of_block (w := w) (a := ⟨b, i, none⟩) (g.block b (World.block_lt_of_cell? w ⟨b, i, none⟩ h) hn)).trans h
end
/-- The bytes lie in memory, below block N. -/
def Bytes (N : Nat) (a : Option Addr) (n : Nat) (w : World) : Prop := n = 0 ∨ ∃ b o, a = some ⟨b, o, none⟩ ∧ b < N ∧ ∀ i, i < n → ∃ v : Int, 0 ≤ v ∧ v < 256 ∧ w.cell? ⟨b, o + i, none⟩ = some (.int .u8 v)
/-- Block B is a source that has been asked at most k times. -/
def Src (N B : Nat) (a : Option Addr) (n c k : Nat) (w : World) : Prop :=
  N ≤ B ∧ Bytes N a n w ∧ w.cell? ⟨B, 0, none⟩ = some (.slice a n c) ∧
  ∃ (p : Nat) (q : Int), p ≤ k ∧ 0 ≤ q ∧ q < 18446744073709551616 ∧ w.cell? ⟨B, 1, none⟩ = some (.int .i64 p) ∧ w.cell? ⟨B, 2, none⟩ = some (.int .u64 q) ∧ w.frozen? ⟨B, 1, none⟩ = false ∧ w.frozen? ⟨B, 2, none⟩ = false
section
variable {N B n c k j : Nat} {a : Option Addr} {w w' : World}
theorem Bytes.keep (hb : Below w.heap.size w w') (h : Bytes N a n w) : Bytes N a n w' := by
  rcases h with h | ⟨b, o, e, l, h⟩
  · exact .inl h
  · exact .inr ⟨b, o, e, l, fun i hi => (h i hi).imp fun v hv => ⟨hv.1, hv.2.1, cellKeep hb hv.2.2⟩⟩
theorem Bytes.aside (hb : Aside B w w') (hB : N ≤ B) (h : Bytes N a n w) : Bytes N a n w' := by
  rcases h with h | ⟨b, o, e, l, h⟩
  · exact .inl h
  · exact .inr ⟨b, o, e, l, fun i hi => (h i hi).imp fun v hv => ⟨hv.1, hv.2.1, hb.cell hv.2.2 (by omega)⟩⟩
theorem Src.keep (hb : Below w.heap.size w w') (h : Src N B a n c k w) : Src N B a n c k w' := by
  obtain ⟨hB, hy, h0, p, q, h1, h2, h3, h4, h5, h6, h7⟩ := h
  have l : ∀ i, (⟨B, i, none⟩ : Addr).block < w.heap.size := fun i => World.block_lt_of_cell? w ⟨B, 0, none⟩ h0
  exact ⟨hB, hy.keep hb, cellKeep hb h0, p, q, h1, h2, h3, cellKeep hb h4, cellKeep hb h5, by rw [hb.frozen (l _)]; exact h6, by rw [hb.frozen (l _)]; exact h7⟩
theorem Src.mono (hk : k ≤ j) (h : Src N B a n c k w) : Src N B a n c j w := by
  obtain ⟨hB, hy, h0, p, q, h1, h⟩ := h
  exact ⟨hB, hy, h0, p, q, Nat.le_trans h1 hk, h⟩
end
/-- Gives an integer of this kind; the source was asked. -/
def Pick (N B : Nat) (a : Option Addr) (n c k : Nat) (P : Int → Prop) (w : World) (e : Ending) (w' : World) : Prop := ∃ v : Int, e = .returned (.int .i64 v) ∧ P v ∧ Src N B a n c k w' ∧ Aside B w w'
theorem u64_low (x : Int) (h0 : 0 ≤ x) (h1 : x < 18446744073709551616) : 0 ≤ bits .and .u64 x 255 ∧ bits .and .u64 x 255 < 256 := by
  obtain ⟨m, rfl⟩ : ∃ m : Nat, x = (m : Int) := ⟨x.toNat, by omega⟩
  have h : m &&& 255 ≤ 255 := Nat.and_le_right
  show 0 ≤ IntKind.u64.wrap ((BitVec.ofInt 64 (m : Int) &&& BitVec.ofInt 64 (255 : Int)).toNat : Int) ∧ IntKind.u64.wrap ((BitVec.ofInt 64 (m : Int) &&& BitVec.ofInt 64 (255 : Int)).toNat : Int) < 256
  rw [BitVec.toNat_and, show ((255 : Int)) = ((255 : Nat) : Int) from rfl, ofInt_u64 _ (by omega), ofInt_u64 _ (by omega), IntKind.wrap_u64]
  generalize m &&& 255 = c at *
  omega
theorem wrap_range (x : Int) : 0 ≤ IntKind.u64.wrap x ∧ IntKind.u64.wrap x < 18446744073709551616 := by
  rw [IntKind.wrap_u64]; omega
theorem Src.step {N B n c k p d e : Nat} {a : Option Addr} {w : World} {x u v : Int} (hB : N ≤ B) (hy : Bytes N a n w) (h0 : w.cell? ⟨B, 0, none⟩ = some (.slice a n c)) (h1 : w.cell? ⟨B, 1, none⟩ = some (.int .i64 u)) (h2 : w.cell? ⟨B, 2, none⟩ = some (.int .u64 v))
    (f1 : w.frozen? ⟨B, 1, none⟩ = false) (f2 : w.frozen? ⟨B, 2, none⟩ = false) (hp : p ≤ k) :
    Src N B a n c (k + 1) ((((w.drewN d).setCell ⟨B, 1, none⟩ (.int .i64 ((p : Int) + 1))).setCell ⟨B, 2, none⟩ (.int .u64 (IntKind.u64.wrap x))).drewN e) ∧ Aside B w ((((w.drewN d).setCell ⟨B, 1, none⟩ (.int .i64 ((p : Int) + 1))).setCell ⟨B, 2, none⟩ (.int .u64 (IntKind.u64.wrap x))).drewN e) := by
  have ha : Aside B w ((((w.drewN d).setCell ⟨B, 1, none⟩ (.int .i64 ((p : Int) + 1))).setCell ⟨B, 2, none⟩ (.int .u64 (IntKind.u64.wrap x))).drewN e) := (((Aside.refl B w).drewN d).set _ _).set _ _ |>.drewN e
  have ne : ∀ {i j : Nat}, i ≠ j → (⟨B, i, none⟩ : Addr) ≠ ⟨B, j, none⟩ := fun h e => by injection e; omega
  have r := wrap_range x
  refine ⟨⟨hB, hy.aside ha hB, ?_, p + 1, _, by omega, r.1, r.2, ?_, ?_, ?_, ?_⟩, ha⟩
  · show (((w.drewN d).setCell _ _).setCell _ _).cell? _ = _
    rw [World.cell?_setCell_other _ _ _ _ (ne (by omega)), World.cell?_setCell_other _ _ _ _ (ne (by omega))]; exact h0
  · show (((w.drewN d).setCell _ _).setCell _ _).cell? _ = _
    rw [World.cell?_setCell_other _ _ _ _ (ne (by omega))]
    exact World.cell?_setCell_same _ _ _ (u := .int .i64 u) h1
  · show (((w.drewN d).setCell _ _).setCell _ _).cell? _ = _
    refine World.cell?_setCell_same _ _ _ (u := .int .u64 v) ?_
    rw [World.cell?_setCell_other _ _ _ _ (ne (by omega))]; exact h2
  · show (((w.drewN d).setCell _ _).setCell _ _).frozen? _ = _
    simpa using f1
  · show (((w.drewN d).setCell _ _).setCell _ _).frozen? _ = _
    simpa using f2
theorem low_range (x : Int) : 0 ≤ wrap64 (bits .and .u64 (IntKind.u64.wrap x / 1099511627776) 255) ∧ wrap64 (bits .and .u64 (IntKind.u64.wrap x / 1099511627776) 255) < 256 := by
  have r := wrap_range x
  have l := u64_low (IntKind.u64.wrap x / 1099511627776) (by omega) (by omega)
  generalize bits .and .u64 (IntKind.u64.wrap x / 1099511627776) 255 = y at *
  unfold wrap64; omega
set_option maxRecDepth 100000 in
theorem src_next (N B : Nat) (a : Option Addr) (n c k : Nat) (hn : n ≤ 9223372036854775807) (hk : k ≤ 1000000) (w : World) (h : Src N B a n c k w) :
    Calls Try.prog 106 #[.pointer (some ⟨B, 0, none⟩)] w (Pick N B a n c (k + 1) (fun v => 0 ≤ v ∧ v < 256) w) := by
  have HS := Lib.hid h
  obtain ⟨hB, hy, h0, p, q, hp, q0, q1, h1, h2, f1, f2⟩ := h
  have HY := Lib.hid hy
  clear hy
  by_cases hlt : p < n
  · rcases HY.out with e | ⟨b, o, rfl, hb, hc⟩
    · omega
    obtain ⟨v, v0, v1, hv⟩ := hc p hlt
    have p0 : (0 : Int) ≤ (p : Int) := by omega
    have p1 : (p : Int) < (n : Int) := by omega
    clear hc
    go_enter Try.func106, Try.ntmps106
    go_wp2_with fail
    go_quiet (fail)
    go_wp2_with fail
    go_quiet (fail)
    go_wp2_with fail
    go_quiet (fail)
    go_wp2_with fail
    go_ret
    obtain ⟨g1, g2⟩ := Src.step (d := _) (e := _) (x := IntKind.u64.wrap (IntKind.u64.wrap (q * 6364136223846793005) + v) + 1442695040888963407) hB HY.out h0 h1 h2 f1 f2 hp
    exact ⟨v, rfl, ⟨v0, v1⟩, g1, g2⟩
  · go_enter Try.func106, Try.ntmps106
    go_wp2_with fail
    go_quiet (fail)
    go_wp2_with fail
    go_quiet (fail)
    go_wp2_with fail
    go_ret
    obtain ⟨g1, g2⟩ := Src.step (d := _) (e := _) (x := IntKind.u64.wrap (IntKind.u64.wrap (q * 6364136223846793005)) + 1442695040888963407) hB HY.out h0 h1 h2 f1 f2 hp
    exact ⟨_, rfl, low_range _, g1, g2⟩
/-- Gives a bool; the source was asked. -/
def Ask (N B : Nat) (a : Option Addr) (n c k : Nat) (w : World) (e : Ending) (w' : World) : Prop := ∃ v : Bool, e = .returned (.bool v) ∧ Src N B a n c k w' ∧ Aside B w w'
theorem src_pick (N B : Nat) (a : Option Addr) (n c k : Nat) (m : Int) (hm : 2 ≤ m) (hm2 : m ≤ 65536) (hn : n ≤ 9223372036854775807) (hk : k ≤ 900000) (w : World) (h : Src N B a n c k w) :
    Calls Try.prog 68 #[.pointer (some ⟨B, 0, none⟩), .int .i64 m] w (Pick N B a n c (k + 2) (fun v => 0 ≤ v ∧ v < m) w) := by
  have HS := Lib.hid h
  clear h
  by_cases h2 : 200 < m
  · go_enter Try.func68, Try.ntmps68
    go_wp2_with fail
    refine (src_next N B a n c k hn (by omega) _ HS.out).mono ?_
    rintro e w1 ⟨x, rfl, ⟨x0, x1⟩, s1, a1⟩
    have H1 := Lib.hid (And.intro s1 a1)
    clear s1 a1
    go_wp2_with fail
    refine (src_next N B a n c (k + 1) hn (by omega) _ H1.out.1).mono ?_
    rintro e w2 ⟨y, rfl, ⟨y0, y1⟩, s2, a2⟩
    have H2 := Lib.hid (And.intro s2 (H1.out.2.trans a2))
    clear s2 a2
    go_wp2_with fail
    go_ret
    exact ⟨_, rfl, ⟨Int.emod_nonneg _ (by omega), Int.emod_lt_of_pos _ (by omega)⟩, H2.out⟩
  · go_enter Try.func68, Try.ntmps68
    go_wp2_with fail
    refine (src_next N B a n c k hn (by omega) _ HS.out).mono ?_
    rintro e w1 ⟨x, rfl, ⟨x0, x1⟩, s1, a1⟩
    have H1 := Lib.hid (And.intro (s1.mono (show k + 1 ≤ k + 2 by omega)) a1)
    clear s1 a1
    go_wp2_with fail
    go_ret
    exact ⟨_, rfl, ⟨Int.emod_nonneg _ (by omega), Int.emod_lt_of_pos _ (by omega)⟩, H1.out⟩
theorem src_one (N B : Nat) (a : Option Addr) (n c k : Nat) (m : Int) (hm : 2 ≤ m) (hm2 : m ≤ 65536) (hn : n ≤ 9223372036854775807) (hk : k ≤ 900000) (w : World) (h : Src N B a n c k w) :
    Calls Try.prog 67 #[.pointer (some ⟨B, 0, none⟩), .int .i64 m] w (Ask N B a n c (k + 2) w) := by
  have HS := Lib.hid h
  clear h
  go_enter Try.func67, Try.ntmps67
  go_wp2_with fail
  refine (src_pick N B a n c k m hm hm2 hn hk _ HS.out).mono ?_
  rintro e w1 ⟨x, rfl, ⟨x0, x1⟩, s1, a1⟩
  have H1 := Lib.hid (And.intro s1 a1)
  clear s1 a1
  go_wp2_with fail
  go_ret
  exact ⟨_, rfl, H1.out⟩
/-- Numbers that a list of the reference's own holds. -/
def Nums (b m : Nat) (w : World) : Prop := ∀ i, i < m → ∃ v : Int, w.cell? ⟨b, i, none⟩ = some (.int .i64 v)
theorem src_among (N B : Nat) (a : Option Addr) (n c k b m : Nat) (hm : 2 ≤ m) (hm2 : m ≤ 200) (hbB : b ≠ B) (hn : n ≤ 9223372036854775807) (hk : k ≤ 900000) (w : World) (h : Src N B a n c k w) (hl : Nums b m w) :
    Calls Try.prog 108 #[.pointer (some ⟨B, 0, none⟩), .slice (some ⟨b, 0, none⟩) m m] w (Pick N B a n c (k + 2) (fun _ => True) w) := by
  have HS := Lib.hid h
  have HN := Lib.hid hl
  clear h hl
  go_enter Try.func108, Try.ntmps108
  go_wp2_with fail
  refine (src_pick N B a n c k (m : Int) (by omega) (by omega) hn hk _ HS.out).mono ?_
  rintro e w1 ⟨x, rfl, ⟨x0, x1⟩, s1, a1⟩
  obtain ⟨i, rfl⟩ : ∃ i : Nat, x = (i : Int) := ⟨x.toNat, by omega⟩
  obtain ⟨v, hv⟩ := HN.out i (by omega)
  have hv1 := a1.cell hv hbB
  have H1 := Lib.hid (And.intro s1 a1)
  clear s1 a1
  go_wp2_with fail
  go_ret
  exact ⟨v, rfl, trivial, H1.out⟩
theorem single_write_lt (d : Ieee.Datum) : Ieee.single.write d < 4294967296 := by
  cases d with
  | number s m e =>
    show Ieee.single.nearest s m e < _
    rw [nearest_eq]
    refine Ieee.Format.word_lt Ieee.single _ ?_
    unfold rungOf
    split
    · decide
    · exact Nat.lt_of_le_of_lt (Nat.min_le_right _ _) (by decide)
  | infinity s => exact Ieee.Format.word_lt Ieee.single _ (by decide)
  | nan s f =>
    refine Ieee.Format.word_lt Ieee.single _ ?_
    have : f % Ieee.single.binade < 8388608 := Nat.mod_lt _ (by decide)
    show 2139095040 + f % Ieee.single.binade < 2147483648
    omega
theorem fval_lt (op : BinOp) (x y : Nat) (w : World) : fval op .f32 x y w < 4294967296 := by
  unfold fval
  cases h : floatBits op .f32 x y with
  | some r =>
    rw [Option.getD_some]
    have wr : ∀ d : Option Ieee.Datum, d.map Ieee.single.write = some r → r < 4294967296 := fun d hd => by
      cases d with
      | none => cases hd
      | some d => injection hd with hd; rw [← hd]; exact single_write_lt d
    cases op <;> simp only [floatBits] at h <;> first | exact wr _ h | cases h
  | none =>
    rw [Option.getD_none]
    simp only [Question.cut]
    have := Nat.mod_lt ((w.tape w.drawn (.nanBits .f32 x y)) / 2) (show 0 < 2 ^ 23 - 1 by decide)
    rcases Nat.mod_two_eq_zero_or_one (w.tape w.drawn (.nanBits .f32 x y)) with h | h <;> rw [h] <;> omega
section
variable {P : Program} {ops : Array Oper} {rest : List Oper} {o : Oper} {a : Act} {w : World} {Q : Exit → Act → World → Prop}
/-- An operation on 32-bit floats: some bits. -/
theorem wpList_fopL {op : BinOp} {tx ty : TypeId} {x y : Operand} {u v : Nat} (hg : o.guard = none) (ho : o.op = .binOp op tx x y ty) (hop : isArith op = true)
    (hx : a.eval x = .float .f32 u) (hy : a.eval y = .float .f32 v)
    (h : ∀ r n, Same .f32 r (fop op .f32 u v) → r < 4294967296 → wpList P ops Q rest (a.put o.dst (.float .f32 r)) (w.drewN n)) : wpList P ops Q (o :: rest) a w :=
  wpList_plain hg fun K hK => by
    have hop' : op = .add ∨ op = .sub ∨ op = .mul ∨ op = .quo := by cases op <;> simp_all [isArith]
    unfold Oper.wp execOp
    simp only [ho, hx, hy, eqGuard_at_float, Sem.run_bind, Sem.run_pure, Result.andThen_ok, run_fop w op hop', Oper.upon_value]
    exact hK _ _ (h _ _ (fval_same op w (Same.refl _ _) (Same.refl _ _)) (fval_lt _ _ _ _))
end
/-- Gives a 32-bit number; the source was asked. -/
def PickF (N B : Nat) (a : Option Addr) (n c k : Nat) (w : World) (e : Ending) (w' : World) : Prop := ∃ x : Nat, e = .returned (.float .f32 x) ∧ x < 4294967296 ∧ Src N B a n c k w' ∧ Aside B w w'
theorem Src.drewN {N B n c k : Nat} {a : Option Addr} {w : World} (h : Src N B a n c k w) (m : Nat) : Src N B a n c k (w.drewN m) := h
theorem from_any (v : Int) (w : World) : Calls Try.prog 69 #[.int .i64 v] w fun e w' => ∃ x : Nat, e = .returned (.float .f32 x) ∧ x < 4294967296 ∧ w = w' := by
  go_enter Try.func69, Try.ntmps69
  go_wp2_with fail
  go_ret
  refine ⟨_, rfl, ?_, rfl⟩
  omega
theorem draw_plain (N B : Nat) (a : Option Addr) (n c k : Nat) (hn : n ≤ 9223372036854775807) (hk : k ≤ 800000) (w : World) (h : Src N B a n c k w) :
    Calls Try.prog 107 #[.pointer (some ⟨B, 0, none⟩)] w (PickF N B a n c (k + 4) w) := by
  have HS := Lib.hid h
  clear h
  go_enter Try.func107, Try.ntmps107
  go_wp2_with fail
  refine (src_pick N B a n c k 129 (by omega) (by omega) hn (by omega) _ HS.out).mono ?_
  rintro e w1 ⟨x, rfl, ⟨x0, x1⟩, s1, a1⟩
  have H1 := Lib.hid (And.intro s1 a1)
  clear s1 a1
  go_wp2_with fail
  refine (src_one N B a n c (k + 2) 4 (by omega) (by omega) hn (by omega) _ H1.out.1).mono ?_
  rintro e w2 ⟨v, rfl, s2, a2⟩
  have H2 := Lib.hid (And.intro s2 (H1.out.2.trans a2))
  clear s2 a2
  cases v
  all_goals
    go_wp2_with (refine wpList_fopL rfl rfl rfl rfl rfl ?_; intro _ _ _ _)
    go_ret
    exact ⟨_, rfl, by assumption, H2.out.1.drewN _, H2.out.2.drewN _⟩
theorem Nums.mk {w : World} {l : List Value} {t : TypeId} (hl : ∀ v ∈ l, ∃ x : Int, v = .int .i64 x) : Nums w.heap.size l.length (w.alloc (.cells l.toArray t)) := fun i hi => by
  obtain ⟨x, hx⟩ := hl l[i] (List.getElem_mem hi)
  refine ⟨x, ?_⟩
  rw [World.cell?_alloc_new]
  simp [hi, hx]
theorem Nums.keep {b m : Nat} {w w' : World} (hb : Below w.heap.size w w') (h : Nums b m w) : Nums b m w' := fun i hi => (h i hi).imp fun _ hv => cellKeep hb hv
theorem Src.alloc {N B n c k : Nat} {a : Option Addr} {w : World} (h : Src N B a n c k w) (o : Obj) : Src N B a n c k (w.alloc o) := h.keep (belowAlloc (Below.refl _ _) _)
theorem Aside.alloc {B : Nat} {w w1 : World} (h : Aside B w w1) (o : Obj) : Aside B w (w1.alloc o) := h.trans (Aside.of B (belowAlloc (Below.refl _ _) _))
theorem Src.lt {N B n c k : Nat} {a : Option Addr} {w : World} (h : Src N B a n c k w) : B < w.heap.size := World.block_lt_of_cell? w ⟨B, 0, none⟩ h.2.2.1
set_option maxRecDepth 100000 in
theorem draw_float (N B : Nat) (a : Option Addr) (n c k : Nat) (hn : n ≤ 9223372036854775807) (hk : k ≤ 700000) (w : World) (h : Src N B a n c k w) :
    Calls Try.prog 70 #[.pointer (some ⟨B, 0, none⟩)] w (PickF N B a n c (k + 10) w) := by
  have HS := Lib.hid h
  clear h
  go_enter Try.func70, Try.ntmps70
  go_wp2_with fail
  refine (src_one N B a n c k 12 (by omega) (by omega) hn (by omega) _ HS.out).mono ?_
  rintro e w1 ⟨v, rfl, s1, a1⟩
  have H1 := Lib.hid (And.intro s1 a1)
  clear s1 a1
  cases v
  · go_wp2_with fail
    refine (draw_plain N B a n c (k + 2) hn (by omega) _ H1.out.1).mono ?_
    rintro e w2 ⟨x, rfl, xl, s2, a2⟩
    have H2 := Lib.hid (And.intro (s2.mono (show k + 2 + 4 ≤ k + 10 by omega)) (H1.out.2.trans a2))
    clear s2 a2
    go_wp2_with fail
    go_ret
    exact ⟨_, rfl, xl, H2.out⟩
  · go_wp2_with fail
    refine (src_pick N B a n c (k + 2) 4 (by omega) (by omega) hn (by omega) _ H1.out.1).mono ?_
    rintro e w2 ⟨x, rfl, ⟨x0, x1⟩, s2, a2⟩
    have H2 := Lib.hid (And.intro s2 (H1.out.2.trans a2))
    clear s2 a2
    obtain rfl | rfl | rfl | rfl : x = 0 ∨ x = 1 ∨ x = 2 ∨ x = 3 := by omega
    · go_wp2_with fail
      refine (src_among N B a n c (k + 2 + 2) w2.heap.size 10 (by omega) (by omega) (by have := H2.out.1.lt; omega) hn (by omega) _ (H2.out.1.alloc _) (Nums.mk (l := [_, _, _, _, _, _, _, _, _, _]) (by simp))).mono ?_
      rintro e w3 ⟨y, rfl, _, s3, a3⟩
      have H3 := Lib.hid (And.intro (s3.mono (show k + 2 + 2 + 2 ≤ k + 10 by omega)) ((H2.out.2.alloc _).trans a3))
      clear s3 a3
      go_wp2_with fail
      refine (from_any y _).mono ?_
      rintro e w4 ⟨z, rfl, zl, rfl⟩
      go_wp2_with fail
      go_ret
      exact ⟨_, rfl, zl, H3.out⟩
    · go_wp2_with fail
      refine (src_pick N B a n c (k + 2 + 2) 65536 (by omega) (by omega) hn (by omega) _ H2.out.1).mono ?_
      rintro e w3 ⟨y, rfl, ⟨y0, y1⟩, s3, a3⟩
      have H3 := Lib.hid (And.intro s3 (H2.out.2.trans a3))
      clear s3 a3
      go_wp2_with fail
      refine (src_pick N B a n c (k + 2 + 2 + 2) 65536 (by omega) (by omega) hn (by omega) _ H3.out.1).mono ?_
      rintro e w4 ⟨z, rfl, ⟨z0, z1⟩, s4, a4⟩
      have H4 := Lib.hid (And.intro (s4.mono (show k + 2 + 2 + 2 + 2 ≤ k + 10 by omega)) (H3.out.2.trans a4))
      clear s4 a4
      go_wp2_with fail
      refine (from_any _ _).mono ?_
      rintro e w5 ⟨u, rfl, ul, rfl⟩
      go_wp2_with fail
      go_ret
      exact ⟨_, rfl, ul, H4.out⟩
    · go_wp2_with fail
      refine (src_pick N B a n c (k + 2 + 2) 65536 (by omega) (by omega) hn (by omega) _ H2.out.1).mono ?_
      rintro e w3 ⟨y, rfl, ⟨y0, y1⟩, s3, a3⟩
      have H3 := Lib.hid (And.intro (s3.mono (show k + 2 + 2 + 2 ≤ k + 10 by omega)) (H2.out.2.trans a3))
      clear s3 a3
      go_wp2_with fail
      refine (from_any _ _).mono ?_
      rintro e w5 ⟨u, rfl, ul, rfl⟩
      go_wp2_with fail
      go_ret
      exact ⟨_, rfl, ul, H3.out⟩
    · go_wp2_with fail
      refine (draw_plain N B a n c (k + 2 + 2) hn (by omega) _ H2.out.1).mono ?_
      rintro e w3 ⟨t, rfl, tl, s3, a3⟩
      have H3 := Lib.hid (And.intro s3 (H2.out.2.trans a3))
      clear s3 a3
      go_wp2_with fail
      refine (src_among N B a n c (k + 2 + 2 + 4) w3.heap.size 4 (by omega) (by omega) (by have := H3.out.1.lt; omega) hn (by omega) _ (H3.out.1.alloc _) (Nums.mk (l := [_, _, _, _]) (by simp))).mono ?_
      rintro e w4 ⟨y, rfl, _, s4, a4⟩
      have H4 := Lib.hid (And.intro s4 ((H3.out.2.alloc _).trans a4))
      clear s4 a4
      go_wp2_with fail
      refine (from_any y _).mono ?_
      rintro e w5 ⟨z, rfl, zl, rfl⟩
      go_wp2_with (refine wpList_fopL rfl rfl rfl rfl rfl ?_; intro _ _ _ _)
      go_ret
      exact ⟨_, rfl, by assumption, H4.out.1.drewN _, H4.out.2.drewN _⟩
/-- Gives a 32-bit number; what was there stays as it was. -/
def AnyF (w : World) (e : Ending) (w' : World) : Prop := ∃ x : Nat, e = .returned (.float .f32 x) ∧ x < 4294967296 ∧ Below w.heap.size w w'
theorem Src.new {a : Option Addr} {n c : Nat} {w : World} {t : TypeId} (h : Bytes w.heap.size a n w) : Src w.heap.size w.heap.size a n c 0 (w.alloc (.cells #[.slice a n c, .int .i64 0, .int .u64 0] t)) := by
  have r := newCells (w1 := w) (a := .slice a n c) (b := .int .i64 0) (c := .int .u64 0) (t := t) (Below.refl _ _)
  exact ⟨Nat.le_refl _, h.keep (belowAlloc (Below.refl _ _) _), r.1, 0, 0, Nat.le_refl _, by omega, by omega, r.2.1, r.2.2.1, r.2.2.2.2.1, r.2.2.2.2.2⟩
theorem any_number (a : Option Addr) (n c : Nat) (hn : n ≤ 9223372036854775807) (w : World) (h : Bytes w.heap.size a n w) : Calls Try.prog 26 #[.slice a n c] w (AnyF w) := by
  have HS := Lib.hid (Src.new (c := c) (t := 86) h)
  have HA := Lib.hid (belowAlloc (Below.refl w.heap.size w) (.cells #[.slice a n c, .int .i64 0, .int .u64 0] 86))
  clear h
  go_enter Try.func26, Try.ntmps26
  go_wp2_with (go_at_call 66; go_in)
  refine (src_one w.heap.size w.heap.size a n c 0 2 (by omega) (by omega) hn (by omega) _ HS.out).mono ?_
  rintro e w1 ⟨v, rfl, s1, a1⟩
  have H1 := Lib.hid (And.intro s1 (a1.below HA.out (Nat.le_refl _) HA.out.size))
  clear s1 a1
  cases v
  · go_wp2_with fail
    refine (draw_float w.heap.size w.heap.size a n c (0 + 2) hn (by omega) _ H1.out.1).mono ?_
    rintro e w2 ⟨x, rfl, xl, s2, a2⟩
    have H2 := Lib.hid (a2.below H1.out.2 (Nat.le_refl _) H1.out.2.size)
    clear s2 a2
    go_wp2_with fail
    go_ret
    exact ⟨_, rfl, xl, H2.out⟩
  · go_wp2_with fail
    refine (src_pick w.heap.size w.heap.size a n c (0 + 2) 65536 (by omega) (by omega) hn (by omega) _ H1.out.1).mono ?_
    rintro e w2 ⟨y, rfl, ⟨y0, y1⟩, s2, a2⟩
    have H2 := Lib.hid (And.intro s2 (a2.below H1.out.2 (Nat.le_refl _) H1.out.2.size))
    clear s2 a2
    go_wp2_with fail
    refine (src_pick w.heap.size w.heap.size a n c (0 + 2 + 2) 65536 (by omega) (by omega) hn (by omega) _ H2.out.1).mono ?_
    rintro e w3 ⟨z, rfl, ⟨z0, z1⟩, s3, a3⟩
    have H3 := Lib.hid (a3.below H2.out.2 (Nat.le_refl _) H2.out.2.size)
    clear s3 a3
    go_wp2_with fail
    refine (from_any _ _).mono ?_
    rintro e w5 ⟨u, rfl, ul, rfl⟩
    go_wp2_with fail
    go_ret
    exact ⟨_, rfl, ul, H3.out⟩
end Go.Proofs.Ytcmmafkmfahijaa
