/- BackWire. Conditions: as each says. -/
import Derived.Test.YtfcniebfoboogaaRev
import Derived.Deep.RegionLaw
namespace Go.Proofs.Ytfcniebfoboogaa
open Go.RowKit
attribute [local go_sem ↓] Go.wp_at_zero Go.wp_at_succ

theorem twoB_id (P : Nat → Nat) (n cu : Nat) : twoB P (idP P) n cu = validB P n cu := by
  unfold twoB
  rw [valid_same (R := idP P) (Q := P) (fun _ _ => Same.refl _ _), Bool.and_self]
theorem Row3.aside {g B : Nat} {a b c : Value} {w w' : World} (hb : Aside B w w') (h : Row3 g a b c w) (hn : g ≠ B) : Row3 g a b c w' := by
  obtain ⟨h0, h1, h2, f0, f1, f2⟩ := h
  have l : g < w.heap.size := World.block_lt_of_cell? _ _ h0
  have k : ∀ i, w'.frozen? ⟨g, i, none⟩ = w.frozen? ⟨g, i, none⟩ := fun i => World.frozen?_of_block (w := w) (hb.block g l hn)
  exact ⟨hb.cell h0 hn, hb.cell h1 hn, hb.cell h2 hn, by rw [k]; exact f0, by rw [k]; exact f1, by rw [k]; exact f2⟩
set_option maxRecDepth 100000 in
theorem impl_BackWire (b o n c cu : Nat) (cl : Bool) (P : Nat → Nat) (hn : n ≤ 9223372036854775807) (w : World) (hv : VS w b o n P) :
    Calls Try.prog 39 #[wireV (.slice (some ⟨b, o, none⟩) n c) cl cu] w (GiveW (gN (validB P n cu) n) (gC (validB P n cu) cl) (gN (validB P n cu) cu) (validB P n cu) (revP P n) w) := by
  have HV := Lib.hid hv
  clear hv
  have ch := fun (wx : World) hv => impl_changedBackWire b o n c cu cl P hn wx hv
  simp only [twoB_id] at ch
  cases hval : validB P n cu
  · rw [hval] at ch
    have CH := Lib.hid ch
    clear ch
    go_enter Try.func39, Try.ntmps39
    go_wp2_with fail
    refine (CH.out _ (VS.keep (belowAlloc (belowAlloc (Below.refl _ _) _) _) HV.out)).mono ?_
    rintro e w1 ⟨a, cc, B, rfl, hr, hB1, hB2, bel⟩
    have RZ := Lib.hid (boxTwo bel).2
    obtain ⟨z0, z1, z2, zf0, zf1, zf2⟩ := RZ.out
    have B1 := Lib.hid (belowNext (belowAlloc (belowAlloc (Below.refl w.heap.size w) _) _) bel)
    have l1 : w.heap.size + 1 < w1.heap.size := World.block_lt_of_cell? _ _ z0
    clear bel hr
    go_wp2_with fail
    obtain ⟨t0, t1, t2, _⟩ := Row3.keep (belowAlloc (Below.refl _ _) (.cells #[.slice a 0 cc, .bool false, .float .f32 0] 30)) (Row3.set (a' := .slice none 0 0) (b' := .bool false) (c' := .float .f32 0) RZ.out)
    refine bodyPost_ret (v := .tuple #[givenV false (w.heap.size + 1) n c cl cu, .bool false]) (by simp [results, Try.results39, go_sem, t0, t1, t2, gN, gC, gA]) rfl ?_
    exact give_of rfl (fun h => by cases h) (Nat.le_succ _) (World.block_lt_of_cell? _ _ t0) (belowAlloc (belowSet (belowSet (belowSet B1.out (Nat.le_succ _)) (Nat.le_succ _)) (Nat.le_succ _)) _)
  · obtain ⟨h2, h48⟩ := valid_bounds hval
    rw [hval] at ch
    have CH := Lib.hid ch
    clear ch
    go_enter Try.func39, Try.ntmps39
    go_wp2_with fail
    refine (CH.out _ (VS.keep (belowAlloc (belowAlloc (Below.refl _ _) _) _) HV.out)).mono ?_
    rintro e w1 ⟨a, cc, B, rfl, hr, hB1, hB2, bel⟩
    have hr' : ResP a n (idP P) B w1 := hr
    rcases hr' with ⟨h0, _⟩ | ⟨rfl, hw⟩
    · omega
    have RZ := Lib.hid (boxTwo bel).2
    have l1 : w.heap.size + 1 < w1.heap.size := World.block_lt_of_cell? _ _ RZ.out.1
    have B1 := Lib.hid (belowNext (belowAlloc (belowAlloc (Below.refl w.heap.size w) _) _) bel)
    have HW := Lib.hid (WRow.congr (Q := P) hw (fun _ _ => rfl))
    simp only [World.size_alloc] at hB1
    have e1 : gN true n = n := rfl
    have e2 : gN true cu = cu := rfl
    have e3 : gC true cl = cl := rfl
    clear bel hr hw
    go_wp2_with fail
    refine (reverse_V B n cc P h2 h48 _ (HW.out.keep (belowAlloc (Below.refl _ _) _))).mono ?_
    rintro e w2 ⟨⟨v, rfl⟩, hw, has⟩
    have RO := Lib.hid (Row3.aside has (Row3.new w1 (.slice (some ⟨B, 0, none⟩) n cc) (.bool cl) (.float .f32 cu) 30) (by omega))
    have RZ2 := Lib.hid (Row3.aside has (Row3.keep (belowAlloc (Below.refl _ _) _) RZ.out) (by omega))
    have B2 := Lib.hid (Aside.below (belowAlloc B1.out _) has (by omega) (belowAlloc B1.out _).size)
    have HW2 := Lib.hid hw
    obtain ⟨o0, o1, o2, _⟩ := RO.out
    obtain ⟨z0, z1, z2, zf0, zf1, zf2⟩ := RZ2.out
    have l2 : w.heap.size + 1 < w2.heap.size := World.block_lt_of_cell? _ _ z0
    clear hw has
    go_wp2_with fail
    obtain ⟨t0, t1, t2, _⟩ := Row3.set (a' := .slice (some ⟨B, 0, none⟩) n cc) (b' := .bool cl) (c' := .float .f32 cu) RZ2.out
    refine bodyPost_ret (v := .tuple #[givenV true B n cc cl cu, .bool true]) (by simp [results, Try.results39, go_sem, t0, t1, t2, gN, gC, gA]) rfl ?_
    have ng : B ≠ w.heap.size + 1 := by omega
    exact give_of rfl (fun _ => ((HW2.out.setOther ng).setOther ng).setOther ng) (by omega) (by have := HW2.out.lt; simpa using this) (belowSet (belowSet (belowSet B2.out (by omega)) (by omega)) (by omega))
theorem vecL_succ (Q : Nat → Nat) (k : Nat) : vecL Q (k + 1) = vecL Q k ++ [.float .f32 (Q (k * 3)), .float .f32 (Q (k * 3 + 1)), .float .f32 (Q (k * 3 + 2))] := by
  unfold vecL
  rw [show (k + 1) * 3 = k * 3 + 3 by omega, List.range_add, List.map_append, List.map_map]
  rfl
set_option maxRecDepth 100000 in
set_option maxHeartbeats 2000000 in
theorem spec_BackWire (b o n c cu : Nat) (cl : Bool) (P : Nat → Nat) (hn : n ≤ 9223372036854775807) (w : World) (hv : VS w b o n P) :
    Calls Try.prog 38 #[wireV (.slice (some ⟨b, o, none⟩) n c) cl cu] w (GiveW (gN (validB P n cu) n) (gC (validB P n cu) cl) (gN (validB P n cu) cu) (validB P n cu) (revP P n) w) := by
  obtain ⟨i0, hi0, hz0, hz1, hz2⟩ := info_parts infoV
  have HV := Lib.hid hv
  clear hv
  cases hval : validB P n cu
  all_goals
    go_enter Try.func38, Try.ntmps38
    go_wp2_with fail
    refine (spec_is _ b o n c cu P hn _ ?_ ?_ ?_).mono ?_
    · exact (boxTwo (Below.refl _ _)).1.1
    · exact (boxTwo (Below.refl _ _)).1.2.2.1
    · exact VS.keep (belowAlloc (belowAlloc (Below.refl _ _) _) _) HV.out
    rw [hval]
    rintro e w1 ⟨rfl, bel⟩
    have RZ := Lib.hid (boxTwo bel).2
    have KB := Lib.hid (boxTwo bel).1
    have V1 := Lib.hid (VS.keep bel (VS.keep (belowAlloc (belowAlloc (Below.refl _ _) _) _) HV.out))
    have B1 := Lib.hid (belowNext (belowAlloc (belowAlloc (Below.refl w.heap.size w) _) _) bel)
    have l1 : w.heap.size + 1 < w1.heap.size := World.block_lt_of_cell? _ _ RZ.out.1
    have l0 : w.heap.size < w1.heap.size := by omega
    obtain ⟨z0, z1, z2, zf0, zf1, zf2⟩ := RZ.out
    obtain ⟨k0, k1, k2, _⟩ := KB.out
    clear bel
    go_wp2_with fail
  · obtain ⟨t0, t1, t2, _⟩ := Row3.set (a' := .slice none 0 0) (b' := .bool false) (c' := .float .f32 0) RZ.out
    refine bodyPost_ret (v := .tuple #[givenV false (w.heap.size + 1) n c cl cu, .bool false]) (by simp [results, Try.results38, go_sem, t0, t1, t2, gN, gC, gA]) rfl ?_
    exact give_of rfl (fun h => by cases h) (Nat.le_succ _) (World.block_lt_of_cell? _ _ t0) (belowSet (belowSet (belowSet B1.out (Nat.le_succ _)) (Nat.le_succ _)) (Nat.le_succ _))
  · obtain ⟨h2, h48⟩ := valid_bounds hval
    go_loopw [5] (fun i wr => ∃ k : Nat, k ≤ n ∧ i = .int .i64 ((n : Int) - 1 - k) ∧ (∃ pv, Row3 (w1.heap.size + 1) pv (.bool cl) (.float .f32 cu) wr ∧ wr.ownsRow w1.heap.size 49 3 pv k (vecL (revP P n) k) ∧ pv.ownBlock ≠ some (w1.heap.size + 1)) ∧ Below w1.heap.size w1 wr) (fun i _ => (intOf i + 1).toNat)
    case atStart =>
      have e := World.ownsRow_lit (base := w1.heap.size) (e := 49) (size := 3) w1 #[] 0 (by simp) (by unfold maxLen; omega) rfl
      have r := Row3.new (w1.alloc (.cells #[] 49)) (.slice (some ⟨w1.heap.size, 0, none⟩) 0 0) (.bool cl) (.float .f32 cu) 30
      simp only [World.size_alloc] at r
      exact ⟨0, Nat.zero_le _, by go_num, ⟨.slice (some ⟨w1.heap.size, 0, none⟩) 0 0, r, e.alloc _, by simp [Value.ownBlock]⟩, belowAlloc (belowAlloc (Below.refl _ _) _) _⟩
    case round =>
      obtain ⟨k, hk, rfl, ⟨pv, rb, hown, hpv⟩, hbel⟩ := hrel
      have HB := Lib.hid hbel
      have RB := Lib.hid rb
      have HO := Lib.hid hown
      have HP := Lib.hid hpv
      have hvw := Lib.hid (VS.keep hbel V1.out)
      have RW := Lib.hid (Row3.keep hbel RZ.out)
      have j0 := cellKeep hbel k0
      have lx : w1.heap.size + 1 < wr.heap.size := World.block_lt_of_cell? _ _ rb.1
      have lw : w.heap.size < wr.heap.size := by omega
      obtain ⟨o0, o1, o2, of0, of1, of2⟩ := rb
      clear hbel hown hpv
      by_cases hlt : k < n
      · obtain ⟨m, hm⟩ : ∃ m, m = n - 1 - k := ⟨_, rfl⟩
        have hmi : (n : Int) - 1 - k = (m : Int) := by omega
        rw [hmi]
        have HM := Lib.hid hm
        have lmn : m < n := by omega
        obtain ⟨x1, x2, x3⟩ := hvw.out.three lmn
        have p0 : (0 : Int) ≤ (m : Int) := by omega
        have p1 : (m : Int) < (n : Int) := by omega
        clear hm hmi
        go_wp2_with fail
        go_region_law (first
          | (refine step_append_lies _ (by rfl) _ _ _ (by rfl) w1.heap.size 49 i0 _ 3 12 Try.underlying28 hi0 hz0 hz1 hz2 rfl (by omega) pv k _ (by rfl) ((HO.out.alloc _).drew) ⟨wr.heap.size, 0, none⟩ 1 1 [.float .f32 (P (m * 3)), .float .f32 (P (m * 3 + 1)), .float .f32 (P (m * 3 + 2))] (by rfl) (by rfl) (World.news_of_block (cs := #[.float .f32 (P (m * 3)), .float .f32 (P (m * 3 + 1)), .float .f32 (P (m * 3 + 2))]) (t := 49) (fr := (0, 0)) (heap_alloc_new wr _)) (by simp [Value.oneCell']) (by omega) (by unfold maxLen; omega) (by omega) (by simp; omega) (wr.heap.size + 1) (by simp) ?_; intro gg cc w2 hown2 hgrow hat hlt1; obtain ⟨q0, q1, q2, d0, d1, d2⟩ := Row3.grown (Row3.keep (Below.drew (belowAlloc (Below.refl wr.heap.size wr) _)) RB.out) hgrow HP.out; have HG := Lib.hid (And.intro hown2 (And.intro hgrow hat)); clear hown2 hgrow hat))
        all_goals
          have hg : gg ≠ w1.heap.size + 1 := by
            rcases HG.out.2.2 with e | e
            · intro h; exact HP.out (by rw [e, h])
            · omega
          have r0 : revP P n (k * 3) = P (m * 3) := revP_at P (d := 0) (by have h := HM.out; omega) (by omega)
          have r1 : revP P n (k * 3 + 1) = P (m * 3 + 1) := revP_at P (by have h := HM.out; omega) (by omega)
          have r2 : revP P n (k * 3 + 2) = P (m * 3 + 2) := revP_at P (by have h := HM.out; omega) (by omega)
          have ho := ownsRow_setCell_other HG.out.1 (a := ⟨w1.heap.size + 1, 0, none⟩) (by simp [Value.ownBlock, hg]) (.slice (some ⟨gg, 0, none⟩) (k + 1) cc)
          rw [← r0, ← r1, ← r2, ← vecL_succ] at ho
          have HR : Row3 (w1.heap.size + 1) pv (.bool cl) (.float .f32 cu) w2 := ⟨q0, q1, q2, d0, d1, d2⟩
          have HX := Lib.hid (And.intro (Row3.first (u := .slice (some ⟨gg, 0, none⟩) (k + 1) cc) HR) (And.intro ho
            (belowSet (j := 0) (u := .slice (some ⟨gg, 0, none⟩) (k + 1) cc) (Below.grown (Below.drew (belowAlloc HB.out _)) HG.out.2.1 (by simp; omega) (fun j hj => owns_le HO.out hj)) (Nat.le_succ _))))
          have hw1 : IntKind.i64.wrap ((m : Int) - 1) = (m : Int) - 1 := IntWalk.i64_in _ (by omega)
          have HGG := Lib.hid hg
          clear HR ho r0 r1 r2 hg
          go_wp2_with fail
          go_roundw
          case rel => exact ⟨k + 1, by omega, by rw [show (n : Int) - 1 - ((k + 1 : Nat) : Int) = (m : Int) - 1 by have h := HM.out; omega], ⟨_, HX.out.1, HX.out.2.1, by simp [Value.ownBlock]; exact HGG.out⟩, HX.out.2.2⟩
          case measure => simp [intOf]
      · obtain rfl : k = n := by omega
        obtain ⟨g, cap, rfl, hlg, hgl⟩ := HO.out.form (by omega)
        have e : (k : Int) - 1 - k = -1 := by omega
        rw [e]
        obtain ⟨y0, y1, y2, yf0, yf1, yf2⟩ := RW.out
        have ng : g ≠ w.heap.size + 1 := by omega
        clear e
        go_wp2_with fail
        obtain ⟨t0, t1, t2, _⟩ := Row3.set (a' := .slice (some ⟨g, 0, none⟩) k cap) (b' := .bool cl) (c' := .float .f32 cu) RW.out
        refine bodyPost_ret (v := .tuple #[givenV true g k cap cl cu, .bool true]) (by simp [results, Try.results38, go_sem, t0, t1, t2, gN, gC, gA]) rfl ?_
        exact give_of rfl (fun _ => (((WRow.owns HO.out).1.setOther ng).setOther ng).setOther ng) (by omega) (by simpa using hgl) (belowSet (belowSet (belowSet (belowNext B1.out HB.out) (by omega)) (by omega)) (by omega))
end Go.Proofs.Ytfcniebfoboogaa
