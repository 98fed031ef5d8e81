/- The square. Conditions: as each says. -/
import Derived.Test.YtfcniebfoboogaaGive
import Derived.Deep.DeepCutAuto
namespace Go.Proofs.Ytfcniebfoboogaa
open Go.RowKit
attribute [local go_sem ↓] Go.wp_at_zero Go.wp_at_succ

theorem finB_neg (x : Nat) : finB (Op.negFloat .f32 x) = finB x := by
  unfold finB
  have : rungAt Ieee.single (Op.negFloat .f32 x) = rungAt Ieee.single x := by
    show rungAt Ieee.single (x ^^^ 2 ^ 31) = _
    unfold rungAt
    show (x ^^^ 2 ^ 31) % 2 ^ 31 = x % 2 ^ 31
    rw [Nat.xor_mod_two_pow]; simp
  rw [this]
def sqL (s h : Nat) : List Nat := [s, s, h, Op.negFloat .f32 s, s, h, Op.negFloat .f32 s, Op.negFloat .f32 s, h, s, Op.negFloat .f32 s, h]
def sqP (s h j : Nat) : Nat := (sqL s h).getD j 0
theorem sq_fin {s h : Nat} (hs : finB s = true) : allFin (sqP s h) 4 = finB h := by
  have hn : finB (Op.negFloat .f32 s) = true := by rw [finB_neg, hs]
  simp only [allFin, vfinP, sqP, sqL, List.getD_cons_zero, List.getD_cons_succ, Nat.zero_mul, Nat.reduceMul, Nat.reduceAdd, Nat.zero_add, Nat.one_mul, hs, hn, Bool.true_and]
  cases finB h <;> rfl
def sqB (s h cu : Nat) : Bool := lenB s && (finB h && finB cu)
theorem lenB_fin {s : Nat} (h : lenB s = true) : finB s = true := by
  unfold lenB at h
  rw [Bool.and_eq_true] at h
  exact h.1
theorem sq_valid {s h cu : Nat} (hs : lenB s = true) : validB (sqP s h) 4 cu = sqB s h cu := by
  unfold validB sqB
  rw [sq_fin (lenB_fin hs), hs]
  simp only [show decide (2 ≤ 4) = true from rfl, show decide (4 ≤ 48) = true from rfl, Bool.true_and]
  rw [Bool.and_comm]
theorem WRow.setOther {B n g i : Nat} {P : Nat → Nat} {w : World} {u : Value} (h : WRow B n P w) (hn : B ≠ g) : WRow B n P (w.setCell ⟨g, i, none⟩ u) := h.ofBlock (Below.heap_setCell _ _ _ _ hn)
theorem Row3.grown {g : Nat} {a b c v : Value} {w w' : World} (h : Row3 g a b c w) (hg : w.grownBy w' v.ownBlock) (hn : v.ownBlock ≠ some g) : Row3 g a b c w' := by
  obtain ⟨h0, h1, h2, f0, f1, f2⟩ := h
  have l : g < w.heap.size := World.block_lt_of_cell? _ _ h0
  exact ⟨by rw [hg.cell_far _ l (Ne.symm hn)]; exact h0, by rw [hg.cell_far _ l (Ne.symm hn)]; exact h1, by rw [hg.cell_far _ l (Ne.symm hn)]; exact h2, by rw [hg.frozen_far _ l (Ne.symm hn)]; exact f0, by rw [hg.frozen_far _ l (Ne.symm hn)]; exact f1, by rw [hg.frozen_far _ l (Ne.symm hn)]; exact f2⟩
theorem Row3.setOne {g i : Nat} {a b c u : Value} {h : Nat} {w : World} (hr : Row3 g a b c w) (hne : g ≠ h) : Row3 g a b c (w.setCell ⟨h, i, none⟩ u) := by
  obtain ⟨h0, h1, h2, f0, f1, f2⟩ := hr
  exact ⟨cellAt h0 hne, cellAt h1 hne, cellAt h2 hne, frozenSet f0, frozenSet f1, frozenSet f2⟩
theorem Row3.first {g : Nat} {a b c u : Value} {w : World} (hr : Row3 g a b c w) : Row3 g u b c (w.setCell ⟨g, 0, none⟩ u) := by
  obtain ⟨h0, h1, h2, f0, f1, f2⟩ := hr
  have e : ∀ {i j : Nat}, i ≠ j → (⟨g, i, none⟩ : Addr) ≠ ⟨g, j, none⟩ := fun h e => by injection e; omega
  exact ⟨World.cell?_setCell_same _ _ _ h0, by rw [World.cell?_setCell_other _ _ _ _ (e (by omega))]; exact h1, by rw [World.cell?_setCell_other _ _ _ _ (e (by omega))]; exact h2, frozenSet f0, frozenSet f1, frozenSet f2⟩
/-- The square's wire is made, n of its points are. -/
def SqMid (w w1 : World) (cu n : Nat) (L : List Value) (g cap : Nat) (wx : World) : Prop := Row3 w.heap.size (.slice none 0 0) (.bool false) (.float .f32 0) wx ∧ Row3 (w1.heap.size + 1) (.slice (some ⟨g, 0, none⟩) n cap) (.bool true) (.float .f32 cu) wx ∧ wx.ownsRow w1.heap.size 49 3 (.slice (some ⟨g, 0, none⟩) n cap) n L ∧ Below w.heap.size w wx ∧ g ≠ w1.heap.size + 1
theorem SqMid.far {w w1 wx w2 : World} {cu n g cap : Nat} {L : List Value} {o : Obj} (h : SqMid w w1 cu n L g cap wx)
    (hgrow : (wx.alloc o).grownBy w2 (Value.slice (some ⟨g, 0, none⟩) n cap).ownBlock) : Row3 (w1.heap.size + 1) (.slice (some ⟨g, 0, none⟩) n cap) (.bool true) (.float .f32 cu) w2 :=
  Row3.grown (Row3.keep (belowAlloc (Below.refl _ _) _) h.2.1) hgrow (by simp [Value.ownBlock, h.2.2.2.2])
theorem SqMid.step {w w1 wx w2 : World} {cu n m g cap g2 cap2 : Nat} {L L2 : List Value} {o : Obj} (hw : w.heap.size < w1.heap.size) (h : SqMid w w1 cu n L g cap wx)
    (hown : w2.ownsRow w1.heap.size 49 3 (.slice (some ⟨g2, 0, none⟩) m cap2) m L2) (hgrow : (wx.alloc o).grownBy w2 (Value.slice (some ⟨g, 0, none⟩) n cap).ownBlock)
    (hat : (Value.slice (some ⟨g, 0, none⟩) n cap).ownBlock = some g2 ∨ g2 = wx.heap.size + 1) : SqMid w w1 cu m L2 g2 cap2 (w2.setCell ⟨w1.heap.size + 1, 0, none⟩ (.slice (some ⟨g2, 0, none⟩) m cap2)) := by
  have ro2 := h.far hgrow
  obtain ⟨rz, ro, ho, hb, hg⟩ := h
  have lx : w1.heap.size + 1 < wx.heap.size := World.block_lt_of_cell? _ _ ro.1
  have lg : w1.heap.size ≤ g := by
    rcases ho.2 with ⟨e, _⟩ | ⟨g', cap', cur, e, hb', _⟩
    · cases e
    · cases e; exact hb'
  have ng : g2 ≠ w1.heap.size + 1 := by
    rcases hat with e | e
    · simp only [Value.ownBlock, Option.some.injEq] at e; omega
    · omega
  refine ⟨Row3.setOne (Row3.grown (Row3.keep (belowAlloc (Below.refl _ _) _) rz) hgrow ?_) (by omega), ro2.first, ownsRow_setCell_other hown (by simp [Value.ownBlock, ng]) _, ?_, ng⟩
  · simp only [Value.ownBlock, ne_eq, Option.some.injEq]; omega
  · exact belowSet (Below.grown (belowAlloc hb _) hgrow (by simp; omega) (fun k hk => by simp only [Value.ownBlock, Option.some.injEq] at hk; omega)) (by omega)
theorem spec_sizeB (x : Nat) (w : World) : Calls Try.prog 63 #[.float .f32 x] w (BoolIs (lenB x) w) := by
  refine (spec_size x w).mono ?_
  rintro e w' ⟨rfl, n, rfl⟩
  exact ⟨rfl, below_drewN (Below.refl _ _) _⟩
set_option maxRecDepth 100000 in
theorem spec_SquareWire (s h cu : Nat) (w : World) : Calls Try.prog 24 #[.float .f32 s, .float .f32 h, .float .f32 cu] w (GiveW (gN (sqB s h cu) 4) (gC (sqB s h cu) true) (gN (sqB s h cu) cu) (sqB s h cu) (sqP s h) w) := by
  obtain ⟨i0, hi0, hz0, hz1, hz2⟩ := info_parts infoV
  cases hl : lenB s
  · have hb : sqB s h cu = false := by unfold sqB; rw [hl, Bool.false_and]
    rw [hb]
    go_enter Try.func24, Try.ntmps24
    go_wp2_with fail
    refine (spec_sizeB _ _).mono ?_
    rw [hl]
    rintro e w1 ⟨rfl, bel⟩
    have rz := Row3.keep bel (Row3.new _ _ _ _ _)
    have B1 := Lib.hid (belowNext (belowAlloc (Below.refl w.heap.size w) _) bel)
    obtain ⟨z0, z1, z2, zf0, zf1, zf2⟩ := rz
    have RZ := Lib.hid (⟨z0, z1, z2, zf0, zf1, zf2⟩ : Row3 w.heap.size _ _ _ w1)
    clear bel
    go_wp2_with fail
    obtain ⟨t0, t1, t2, _⟩ := Row3.set (a' := .slice none 0 0) (b' := .bool false) (c' := .float .f32 0) RZ.out
    refine bodyPost_ret (v := .tuple #[givenV false w.heap.size 4 4 true cu, .bool false]) (by simp [results, Try.results24, go_sem, t0, t1, t2, givenV, gN, gC, gA]) rfl ?_
    exact give_of rfl (fun h => by cases h) (Nat.le_refl _) (World.block_lt_of_cell? _ _ t0) (belowSet (belowSet (belowSet B1.out (Nat.le_refl _)) (Nat.le_refl _)) (Nat.le_refl _))
  · rw [← sq_valid hl]
    go_enter Try.func24, Try.ntmps24
    go_wp2_with fail
    refine (spec_sizeB _ _).mono ?_
    rw [hl]
    rintro e w1 ⟨rfl, bel⟩
    have RZ := Lib.hid (Row3.keep bel (Row3.new _ _ _ _ _))
    have B1 := Lib.hid (belowNext (belowAlloc (Below.refl w.heap.size w) _) bel)
    have lw : w.heap.size < w1.heap.size := World.block_lt_of_cell? _ _ RZ.out.1
    clear bel
    go_upto_region 3 with (fail)
    go_cut [8] (fun s4 wx => s4 = .pointer (some ⟨w1.heap.size + 1, 0, none⟩) ∧ SqMid w w1 cu 0 [] w1.heap.size 0 wx)
    case first =>
      go_wp2_with fail
      go_meet
      have e := World.ownsRow_lit (base := w1.heap.size) (e := 49) (size := 3) w1 #[] 0 (by simp) (by unfold maxLen; omega) rfl
      refine ⟨rfl, Row3.keep (belowAlloc (belowAlloc (Below.refl _ _) _) _) RZ.out, ?_, e.alloc _, belowAlloc (belowAlloc B1.out _) _, by omega⟩
      have r := Row3.new (w1.alloc (.cells #[] 49)) (.slice (some ⟨w1.heap.size, 0, none⟩) 0 0) (.bool true) (.float .f32 cu) 30
      simp only [World.size_alloc] at r
      exact r
    case rest =>
      obtain ⟨rfl, hm⟩ := hcut
      have HM := Lib.hid hm
      obtain ⟨_, ⟨o0, o1, o2, f0, f1, f2⟩, _, _, _⟩ := hm
      have lx : w1.heap.size + 1 < wc.heap.size := World.block_lt_of_cell? _ _ o0
      have lz : w.heap.size < wc.heap.size := by omega
      go_upto_region 4 with (fail)
      go_cut [8] (fun s4 wx => s4 = .pointer (some ⟨w1.heap.size + 1, 0, none⟩) ∧ ∃ g cap, SqMid w w1 cu 2 [.float .f32 s, .float .f32 s, .float .f32 h, .float .f32 (Op.negFloat .f32 s), .float .f32 s, .float .f32 h] g cap wx)
      case first =>
        go_wp2_with (first | (at_builtin; (refine wpList_append_lies _ rfl _ _ 28 rfl w1.heap.size 49 i0 _ 3 12 Try.underlying28 hi0 hz0 hz1 hz2 rfl (by decide) (.slice (some ⟨w1.heap.size, 0, none⟩) 0 0) 0 _ rfl (HM.out.2.2.1.alloc _) ⟨wc.heap.size, 0, none⟩ 2 2 [.float .f32 s, .float .f32 s, .float .f32 h, .float .f32 (Op.negFloat .f32 s), .float .f32 s, .float .f32 h] rfl rfl (World.news_of_block (cs := #[.float .f32 s, .float .f32 s, .float .f32 h, .float .f32 (Op.negFloat .f32 s), .float .f32 s, .float .f32 h]) (t := 49) (fr := (0, 0)) (heap_alloc_new wc _)) (by simp [Value.oneCell']) (by omega) (by unfold maxLen; omega) (by omega) (by simp; omega) (wc.heap.size + 1) (by simp) ?_); intro g2 cap2 w2 hown hgrow hat hlt; obtain ⟨q0, q1, q2, e0, e1, e2⟩ := HM.out.far hgrow; have HS := Lib.hid (HM.out.step lw hown hgrow hat); clear hown hgrow hat))
        go_meet
        exact ⟨rfl, _, _, HS.out⟩
      case rest =>
        obtain ⟨rfl, g, cap, hm⟩ := hcut
        clear HM o0 o1 o2 f0 f1 f2 lx lz
        have HM := Lib.hid hm
        obtain ⟨_, ⟨o0, o1, o2, f0, f1, f2⟩, _, _, _⟩ := hm
        have lx : w1.heap.size + 1 < wc.heap.size := World.block_lt_of_cell? _ _ o0
        have lz : w.heap.size < wc.heap.size := by omega
        go_upto_region 5 with (fail)
        go_cut [8] (fun s4 wx => s4 = .pointer (some ⟨w1.heap.size + 1, 0, none⟩) ∧ ∃ g cap, SqMid w w1 cu 4 [.float .f32 s, .float .f32 s, .float .f32 h, .float .f32 (Op.negFloat .f32 s), .float .f32 s, .float .f32 h, .float .f32 (Op.negFloat .f32 s), .float .f32 (Op.negFloat .f32 s), .float .f32 h, .float .f32 s, .float .f32 (Op.negFloat .f32 s), .float .f32 h] g cap wx)
        case first =>
          go_wp2_with (first | (at_builtin; (refine wpList_append_lies _ rfl _ _ 28 rfl w1.heap.size 49 i0 _ 3 12 Try.underlying28 hi0 hz0 hz1 hz2 rfl (by decide) (.slice (some ⟨g, 0, none⟩) 2 cap) 2 _ rfl (HM.out.2.2.1.alloc _) ⟨wc.heap.size, 0, none⟩ 2 2 [.float .f32 (Op.negFloat .f32 s), .float .f32 (Op.negFloat .f32 s), .float .f32 h, .float .f32 s, .float .f32 (Op.negFloat .f32 s), .float .f32 h] rfl rfl (World.news_of_block (cs := #[.float .f32 (Op.negFloat .f32 s), .float .f32 (Op.negFloat .f32 s), .float .f32 h, .float .f32 s, .float .f32 (Op.negFloat .f32 s), .float .f32 h]) (t := 49) (fr := (0, 0)) (heap_alloc_new wc _)) (by simp [Value.oneCell']) (by omega) (by unfold maxLen; omega) (by omega) (by simp; omega) (wc.heap.size + 1) (by simp) ?_); intro g2 cap2 w2 hown hgrow hat hlt; obtain ⟨q0, q1, q2, e0, e1, e2⟩ := HM.out.far hgrow; have HS := Lib.hid (HM.out.step lw hown hgrow hat); clear hown hgrow hat))
          go_meet
          exact ⟨rfl, _, _, HS.out⟩
        case rest =>
          obtain ⟨rfl, g, cap, hm⟩ := hcut
          clear HM o0 o1 o2 f0 f1 f2 lx lz
          obtain ⟨rz, ⟨o0, o1, o2, f0, f1, f2⟩, hown, bel, hg⟩ := hm
          obtain ⟨hw4, hlg⟩ := WRow.owns (P := sqP s h) (n := 4) hown
          have H4 := Lib.hid (And.intro rz (And.intro hw4 bel))
          clear rz hw4 bel hown
          go_wp2_with fail
          refine (spec_give g 4 cap cu true (sqP s h) (by omega) _ H4.out.2.1.vs).mono ?_
          rintro e w5 ⟨rfl, bel⟩
          have HX := Lib.hid (And.intro (Row3.keep bel H4.out.1) (And.intro (WRow.keep bel H4.out.2.1) (belowNext H4.out.2.2 bel)))
          obtain ⟨z0, z1, z2, y0, y1, y2⟩ := HX.out.1
          clear bel
          go_wp2_with fail
          obtain ⟨t0, t1, t2, _⟩ := Row3.set (a' := .slice (gA (validB (sqP s h) 4 cu) g) (gN (validB (sqP s h) 4 cu) 4) (gN (validB (sqP s h) 4 cu) cap)) (b' := .bool (gC (validB (sqP s h) 4 cu) true)) (c' := .float .f32 (gN (validB (sqP s h) 4 cu) cu)) HX.out.1
          refine bodyPost_ret (v := .tuple #[givenV (validB (sqP s h) 4 cu) g 4 cap true cu, .bool (validB (sqP s h) 4 cu)]) (by simp [results, Try.results24, go_sem, t0, t1, t2]) rfl ?_
          have ng : g ≠ w.heap.size := by omega
          exact give_of rfl (fun _ => ((HX.out.2.1.setOther ng).setOther ng).setOther ng) (by omega) (by have := HX.out.2.1.lt; simpa using this) (belowSet (belowSet (belowSet HX.out.2.2 (Nat.le_refl _)) (Nat.le_refl _)) (Nat.le_refl _))
theorem impl_isLengthB (x : Nat) (w : World) : Calls Try.prog 65 #[.float .f32 x] w (BoolIs (lenB x) w) := by
  refine (impl_isLength x w).mono ?_
  rintro e w' ⟨rfl, n, rfl⟩
  exact ⟨rfl, below_drewN (Below.refl _ _) _⟩
theorem impl_finB (x : Nat) (w : World) : Calls Try.prog 53 #[.float .f32 x] w (BoolIs (finB x) w) := by
  refine (impl_IsFinite x w).mono ?_
  rintro e w' ⟨rfl, n, rfl⟩
  exact ⟨rfl, below_drewN (Below.refl _ _) _⟩
set_option maxRecDepth 100000 in
theorem impl_SquareWire (s h cu : Nat) (w : World) : Calls Try.prog 25 #[.float .f32 s, .float .f32 h, .float .f32 cu] w (GiveW (gN (sqB s h cu) 4) (gC (sqB s h cu) true) (gN (sqB s h cu) cu) (sqB s h cu) (sqP s h) w) := by
  cases hl : lenB s
  · have hb : sqB s h cu = false := by unfold sqB; rw [hl, Bool.false_and]
    rw [hb]
    go_enter Try.func25, Try.ntmps25
    go_wp2_with fail
    refine (impl_isLengthB _ _).mono ?_
    rw [hl]
    rintro e w1 ⟨rfl, bel⟩
    have B1 := Lib.hid (belowNext (belowAlloc (Below.refl w.heap.size w) _) bel)
    have RZ := Lib.hid (Row3.keep bel (Row3.new _ _ _ _ _))
    obtain ⟨z0, z1, z2, zf0, zf1, zf2⟩ := RZ.out
    clear bel
    go_wp2_with fail
    obtain ⟨t0, t1, t2, _⟩ := Row3.set (a' := .slice none 0 0) (b' := .bool false) (c' := .float .f32 0) RZ.out
    refine bodyPost_ret (v := .tuple #[givenV false w.heap.size 4 4 true cu, .bool false]) (by simp [results, Try.results25, go_sem, t0, t1, t2, gN, gC, gA]) rfl ?_
    exact give_of rfl (fun h => by cases h) (Nat.le_refl _) (World.block_lt_of_cell? _ _ t0) (belowSet (belowSet (belowSet B1.out (Nat.le_refl _)) (Nat.le_refl _)) (Nat.le_refl _))
  · cases hf : finB h
    · have hb : sqB s h cu = false := by unfold sqB; rw [hf, Bool.false_and, Bool.and_false]
      rw [hb]
      go_enter Try.func25, Try.ntmps25
      go_wp2_with fail
      refine (impl_isLengthB _ _).mono ?_
      rw [hl]
      rintro e w1 ⟨rfl, bel⟩
      have B1 := Lib.hid (belowNext (belowAlloc (Below.refl w.heap.size w) _) bel)
      have RZ1 := Lib.hid (Row3.keep bel (Row3.new _ _ _ _ _))
      clear bel
      go_wp2_with fail
      refine (impl_finB _ _).mono ?_
      rw [hf]
      rintro e w2 ⟨rfl, bel⟩
      have B2 := Lib.hid (belowNext B1.out bel)
      have RZ := Lib.hid (Row3.keep bel RZ1.out)
      obtain ⟨z0, z1, z2, zf0, zf1, zf2⟩ := RZ.out
      clear bel
      go_wp2_with fail
      obtain ⟨t0, t1, t2, _⟩ := Row3.set (a' := .slice none 0 0) (b' := .bool false) (c' := .float .f32 0) RZ.out
      refine bodyPost_ret (v := .tuple #[givenV false w.heap.size 4 4 true cu, .bool false]) (by simp [results, Try.results25, go_sem, t0, t1, t2, gN, gC, gA]) rfl ?_
      exact give_of rfl (fun h => by cases h) (Nat.le_refl _) (World.block_lt_of_cell? _ _ t0) (belowSet (belowSet (belowSet B2.out (Nat.le_refl _)) (Nat.le_refl _)) (Nat.le_refl _))
    · rw [← sq_valid hl]
      go_enter Try.func25, Try.ntmps25
      go_wp2_with fail
      refine (impl_isLengthB _ _).mono ?_
      rw [hl]
      rintro e w1 ⟨rfl, bel⟩
      have B1 := Lib.hid (belowNext (belowAlloc (Below.refl w.heap.size w) _) bel)
      have RZ1 := Lib.hid (Row3.keep bel (Row3.new _ _ _ _ _))
      clear bel
      go_wp2_with fail
      refine (impl_finB _ _).mono ?_
      rw [hf]
      rintro e w2 ⟨rfl, bel⟩
      have B2 := Lib.hid (belowNext B1.out bel)
      have RZ2 := Lib.hid (Row3.keep bel RZ1.out)
      have lz : w.heap.size < w2.heap.size := World.block_lt_of_cell? _ _ RZ2.out.1
      clear bel
      go_wp2_with fail
      have hw4 : WRow w2.heap.size 4 (sqP s h) (w2.alloc (.cells #[.float .f32 s, .float .f32 s, .float .f32 h, .float .f32 (Op.negFloat .f32 s), .float .f32 s, .float .f32 h, .float .f32 (Op.negFloat .f32 s), .float .f32 (Op.negFloat .f32 s), .float .f32 h, .float .f32 s, .float .f32 (Op.negFloat .f32 s), .float .f32 h] 49)) := by
        refine WRow.row ((World.rowIs_alloc w2 #[.float .f32 s, .float .f32 s, .float .f32 h, .float .f32 (Op.negFloat .f32 s), .float .f32 s, .float .f32 h, .float .f32 (Op.negFloat .f32 s), .float .f32 (Op.negFloat .f32 s), .float .f32 h, .float .f32 s, .float .f32 (Op.negFloat .f32 s), .float .f32 h] 49 (fun i => .float .f32 (sqP s h i))) ?_)
        intro i hi
        simp only [List.size_toArray, List.length_cons, List.length_nil] at hi
        obtain rfl | rfl | rfl | rfl | rfl | rfl | rfl | rfl | rfl | rfl | rfl | rfl : i = 0 ∨ i = 1 ∨ i = 2 ∨ i = 3 ∨ i = 4 ∨ i = 5 ∨ i = 6 ∨ i = 7 ∨ i = 8 ∨ i = 9 ∨ i = 10 ∨ i = 11 := by omega
        all_goals rfl
      have H4 := Lib.hid (And.intro (Row3.keep (belowAlloc (Below.refl _ _) (.cells #[.float .f32 s, .float .f32 s, .float .f32 h, .float .f32 (Op.negFloat .f32 s), .float .f32 s, .float .f32 h, .float .f32 (Op.negFloat .f32 s), .float .f32 (Op.negFloat .f32 s), .float .f32 h, .float .f32 s, .float .f32 (Op.negFloat .f32 s), .float .f32 h] 49)) RZ2.out) (And.intro hw4 (belowAlloc B2.out (.cells #[.float .f32 s, .float .f32 s, .float .f32 h, .float .f32 (Op.negFloat .f32 s), .float .f32 s, .float .f32 h, .float .f32 (Op.negFloat .f32 s), .float .f32 (Op.negFloat .f32 s), .float .f32 h, .float .f32 s, .float .f32 (Op.negFloat .f32 s), .float .f32 h] 49))))
      clear hw4
      refine (impl_ifWire w2.heap.size 4 4 cu true (sqP s h) (by omega) _ H4.out.2.1.vs).mono ?_
      rintro e w5 ⟨rfl, bel⟩
      have HX := Lib.hid (And.intro (Row3.keep bel H4.out.1) (And.intro (WRow.keep bel H4.out.2.1) (belowNext H4.out.2.2 bel)))
      obtain ⟨z0, z1, z2, y0, y1, y2⟩ := HX.out.1
      clear bel
      go_wp2_with fail
      obtain ⟨t0, t1, t2, _⟩ := Row3.set (a' := .slice (gA (validB (sqP s h) 4 cu) w2.heap.size) (gN (validB (sqP s h) 4 cu) 4) (gN (validB (sqP s h) 4 cu) 4)) (b' := .bool (gC (validB (sqP s h) 4 cu) true)) (c' := .float .f32 (gN (validB (sqP s h) 4 cu) cu)) HX.out.1
      refine bodyPost_ret (v := .tuple #[givenV (validB (sqP s h) 4 cu) w2.heap.size 4 4 true cu, .bool (validB (sqP s h) 4 cu)]) (by simp [results, Try.results25, go_sem, t0, t1, t2]) rfl ?_
      have ng : w2.heap.size ≠ w.heap.size := by omega
      exact give_of rfl (fun _ => ((HX.out.2.1.setOther ng).setOther ng).setOther ng) (by omega) (by have := HX.out.2.1.lt; simpa using this) (belowSet (belowSet (belowSet HX.out.2.2 (Nat.le_refl _)) (Nat.le_refl _)) (Nat.le_refl _))
end Go.Proofs.Ytfcniebfoboogaa
