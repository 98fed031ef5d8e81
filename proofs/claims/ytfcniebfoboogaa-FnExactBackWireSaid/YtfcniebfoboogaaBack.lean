/- Wires the other way round. Conditions: as each says. -/
import Derived.Test.YtfcniebfoboogaaCht
import Derived.Deep.RegionLaw
namespace Go.Proofs.Ytfcniebfoboogaa
open Go.RowKit
attribute [local go_sem ↓] Go.wp_at_zero Go.wp_at_succ

def idP (P : Nat → Nat) (j : Nat) : Nat := P j
def revP (P : Nat → Nat) (n j : Nat) : Nat := P ((n - 1 - j / 3) * 3 + j % 3)
/-- The k first and the k last have changed places. -/
def swapP (P : Nat → Nat) (n k j : Nat) : Nat := if j / 3 < k ∨ n - 1 - k < j / 3 then revP P n j else P j
theorem swapP_at {P : Nat → Nat} {n k m : Nat} (h1 : ¬ m < k) (h2 : ¬ n - 1 - k < m) : swapP P n k (m * 3) = P (m * 3) ∧ swapP P n k (m * 3 + 1) = P (m * 3 + 1) ∧ swapP P n k (m * 3 + 2) = P (m * 3 + 2) := by
  have e0 : m * 3 / 3 = m := by omega
  have e1 : (m * 3 + 1) / 3 = m := by omega
  have e2 : (m * 3 + 2) / 3 = m := by omega
  unfold swapP
  simp only [e0, e1, e2, h1, h2, or_self, if_false, and_self]
theorem revP_at (P : Nat → Nat) {n k m d : Nat} (h : m + k + 1 = n) (hd : d < 3) : revP P n (m * 3 + d) = P (k * 3 + d) := by
  unfold revP
  congr 1
  omega
theorem swapP_set (P : Nat → Nat) {n k m j : Nat} (hm : m = n - 1 - k) (hk : k < m) : (if j = m * 3 + 2 then P (k * 3 + 2) else if j = m * 3 + 1 then P (k * 3 + 1) else if j = m * 3 then P (k * 3) else if j = k * 3 + 2 then P (m * 3 + 2) else if j = k * 3 + 1 then P (m * 3 + 1) else if j = k * 3 then P (m * 3) else swapP P n k j) = swapP P n (k + 1) j := by
  unfold swapP
  by_cases a2 : j = m * 3 + 2
  · rw [if_pos a2, if_pos (by omega), a2]; exact (revP_at P (by omega) (by omega)).symm
  · rw [if_neg a2]
    by_cases a1 : j = m * 3 + 1
    · rw [if_pos a1, if_pos (by omega), a1]; exact (revP_at P (by omega) (by omega)).symm
    · rw [if_neg a1]
      by_cases a0 : j = m * 3
      · rw [if_pos a0, if_pos (by omega), a0]; exact (revP_at P (d := 0) (by omega) (by omega)).symm
      · rw [if_neg a0]
        by_cases b2 : j = k * 3 + 2
        · rw [if_pos b2, if_pos (by omega), b2]; exact (revP_at P (by omega) (by omega)).symm
        · rw [if_neg b2]
          by_cases b1 : j = k * 3 + 1
          · rw [if_pos b1, if_pos (by omega), b1]; exact (revP_at P (by omega) (by omega)).symm
          · rw [if_neg b1]
            by_cases b0 : j = k * 3
            · rw [if_pos b0, if_pos (by omega), b0]; exact (revP_at P (d := 0) (by omega) (by omega)).symm
            · rw [if_neg b0]
              by_cases c : j / 3 < k ∨ n - 1 - k < j / 3
              · rw [if_pos c, if_pos (by omega)]
              · rw [if_neg c, if_neg (by omega)]
theorem swapP_done (P : Nat → Nat) {n k j : Nat} (h1 : ¬ k < n - 1 - k) (h2 : k ≤ n - k) (hj : j < n * 3) : swapP P n k j = revP P n j := by
  unfold swapP
  by_cases c : j / 3 < k ∨ n - 1 - k < j / 3
  · rw [if_pos c]
  · rw [if_neg c]
    unfold revP
    congr 1
    omega
theorem impl_BackWire1 (x0 y0 z0 : Nat) (w : World) : Calls Try.prog 80 #[vecV x0 y0 z0] w (VecIs x0 y0 z0 w) := by
  go_enter Try.func80, Try.ntmps80
  go_wp2_with fail
  refine bodyPost_ret (v := vecV x0 y0 z0) (by simp [results, Try.results80, go_sem]) rfl ?_
  refine ⟨_, _, _, rfl, Same.refl _ _, Same.refl _ _, Same.refl _ _, ?_⟩
  (repeat' (first | with_reducible exact Below.refl _ _ | with_reducible assumption | with_reducible exact belowNext (by assumption) (by assumption) | with_reducible exact belowAlloc (by assumption) _ | refine below_drewN ?_ _ | refine Below.alloc ?_ (by first | exact Nat.le_refl _ | (simp <;> omega)) _ | refine Below.setCell ?_ (by first | exact Nat.le_refl _ | (simp <;> omega)) _ | refine Below.trans ?_ (Below.mono (by assumption) (by first | exact Nat.le_refl _ | (simp <;> omega)))))
set_option maxRecDepth 100000 in
set_option maxHeartbeats 2000000 in
theorem impl_changedBackWire (b o n c cu : Nat)  (cl : Bool) (P : Nat → Nat) (hn : n ≤ 9223372036854775807) (w : World)  (hv : VS w b o n P) :
    Calls Try.prog 79 #[wireV (.slice (some ⟨b, o, none⟩) n c) cl cu, .func (Fn.func 80) #[] #[]] w (GiveW (gN (twoB P (idP P) n cu) n) (gC (twoB P (idP P) n cu) cl) (gN (twoB P (idP P) n cu) cu) (twoB P (idP P) n cu) (idP P) w) := by
  obtain ⟨i0, hi0, hz0, hz1, hz2⟩ := info_parts infoV
  have HV := Lib.hid hv
  clear hv
  cases hval : validB P n cu
  · have hb : twoB P (idP P) n cu = false := by unfold twoB; rw [hval, Bool.false_and]
    rw [hb]
    go_enter Try.func79, Try.ntmps79
    go_wp2_with fail
    refine (impl_ValidWire b o n c cu cl P hn _ (VS.keep (belowAlloc (belowAlloc (Below.refl _ _) _) _) HV.out)).mono ?_
    rw [hval]
    rintro e w1 ⟨rfl, bel⟩
    have RZ := Lib.hid (boxTwo bel).2
    obtain ⟨z0, z1, z2, zf0, zf1, zf2⟩ := RZ.out
    have B1 := Lib.hid (belowNext (belowAlloc (belowAlloc (Below.refl w.heap.size w) _) _) bel)
    clear bel
    go_wp2_with fail
    obtain ⟨t0, t1, t2, _⟩ := Row3.set (a' := .slice none 0 0) (b' := .bool false) (c' := .float .f32 0) RZ.out
    refine bodyPost_ret (v := .tuple #[givenV false (w.heap.size + 1) n c cl cu, .bool false]) (by simp [results, Try.results79, go_sem, t0, t1, t2, gN, gC, gA]) rfl ?_
    exact give_of rfl (fun h => by cases h) (Nat.le_succ _) (World.block_lt_of_cell? _ _ t0) (belowSet (belowSet (belowSet B1.out (Nat.le_succ _)) (Nat.le_succ _)) (Nat.le_succ _))
  · obtain ⟨h2, h48⟩ := valid_bounds hval
    have hb : twoB P (idP P) n cu = validB (idP P) n cu := by unfold twoB; rw [hval, Bool.true_and]
    rw [hb]
    clear hb
    go_enter Try.func79, Try.ntmps79
    go_wp2_with fail
    refine (impl_ValidWire b o n c cu cl P hn _ (VS.keep (belowAlloc (belowAlloc (Below.refl _ _) _) _) HV.out)).mono ?_
    rw [hval]
    rintro e w1 ⟨rfl, bel⟩
    have RZ := Lib.hid (boxTwo bel).2
    obtain ⟨k0, k1, k2, kf0, kf1, kf2⟩ := (boxTwo bel).1
    have V1 := Lib.hid (VS.keep bel (VS.keep (belowAlloc (belowAlloc (Below.refl _ _) _) _) HV.out))
    have B1 := Lib.hid (belowNext (belowAlloc (belowAlloc (Below.refl w.heap.size w) _) _) bel)
    have l1 : w.heap.size + 1 < w1.heap.size := World.block_lt_of_cell? _ _ RZ.out.1
    have l0 : w.heap.size < w1.heap.size := by omega
    skip
    clear bel
    go_wp2_with fail
    go_loopw [8, 21] (fun _ i wr => ∃ k : Nat, k ≤ n ∧ i = .int .i64 k ∧ (∃ pv, Row3 w1.heap.size pv (.bool cl) (.float .f32 cu) wr ∧ GrowR (w1.heap.size + 1) (idP P) k pv wr) ∧ Below w1.heap.size w1 wr) (fun _ i _ => n - (intOf i).toNat)
    case atStart => exact ⟨0, Nat.zero_le _, rfl, ⟨.slice none 0 0, Row3.new _ _ _ _ _, P, World.ownsRow_nil _ _ _ _, fun j hj => by omega⟩, belowAlloc (Below.refl _ _) _⟩
    case round =>
      obtain ⟨k, hk, rfl, ⟨pv, rb, R, hown, hs⟩, hbel⟩ := hrel
      have hvw := Lib.hid (VS.keep hbel V1.out)
      have HB := Lib.hid hbel
      have RB := Lib.hid rb
      have HO := Lib.hid hown
      have HS := Lib.hid hs
      have RW := Lib.hid (Row3.keep hbel RZ.out)
      skip
      have lx : w1.heap.size < wr.heap.size := World.block_lt_of_cell? _ _ rb.1
      obtain ⟨o0, o1, o2, _⟩ := rb
      clear hown hs hbel
      by_cases hlt : k < n
      · obtain ⟨x1, x2, x3⟩ := hvw.out.three hlt
        have p0 : (0 : Int) ≤ (k : Int) := by omega
        have p1 : (k : Int) < (n : Int) := by omega
        go_wp2_with fail
        have RBD := Lib.hid (show Row3 w1.heap.size pv (.bool cl) (.float .f32 cu) (wr.alloc (.cells #[.float .f32 (P (k * 3)), .float .f32 (P (k * 3 + 1)), .float .f32 (P (k * 3 + 2))] 49)).drew from Row3.keep (Below.drew (belowAlloc (Below.refl wr.heap.size wr) _)) RB.out)
        have HOD := Lib.hid (World.ownsRow.drew (HO.out.alloc (.cells #[.float .f32 (P (k * 3)), .float .f32 (P (k * 3 + 1)), .float .f32 (P (k * 3 + 2))] 49)))
        have HBD := Lib.hid (Below.drew (belowAlloc HB.out (.cells #[.float .f32 (P (k * 3)), .float .f32 (P (k * 3 + 1)), .float .f32 (P (k * 3 + 2))] 49)))
        go_region_law (first
          | (go_simp; go_at_call 80; refine (impl_BackWire1 _ _ _ _).mono ?_; rintro e w' ⟨u, v, t, rfl, hu, hv2, ht, hb⟩; obtain ⟨g0, g1, g2, e0, e1, e2⟩ := Row3.keep hb RBD.out; have HO2 := Lib.hid (ownsKeep hb HOD.out); have HB2 := Lib.hid (belowNext HBD.out hb); have HUV := Lib.hid (And.intro hu (And.intro hv2 ht)); have lw' : w1.heap.size < w'.heap.size := World.block_lt_of_cell? _ _ g0; clear hb hu hv2 ht; dsimp only)
          | ((refine step_append_lies _ (by rfl) _ _ _ (by rfl) (w1.heap.size + 1) 49 i0 _ 3 12 Try.underlying28 hi0 hz0 hz1 hz2 rfl (by omega) pv k _ (by rfl) (HO2.out.alloc _) ⟨w'.heap.size, 0, none⟩ 1 1 [.float .f32 u, .float .f32 v, .float .f32 t] (by rfl) (by rfl) (World.news_of_block (cs := #[.float .f32 u, .float .f32 v, .float .f32 t]) (t := 49) (fr := (0, 0)) (heap_alloc_new w' _)) (by simp [Value.oneCell']) (by omega) (by unfold maxLen; omega) (by omega) (by simp; omega) (w'.heap.size + 1) (by simp) ?_); intro gg cc w2 hown2 hgrow hat hlt1; obtain ⟨q0, q1, q2, d0, d1, d2⟩ := Row3.grown (Row3.keep (belowAlloc (Below.refl _ _) _) (⟨g0, g1, g2, e0, e1, e2⟩ : Row3 w1.heap.size _ _ _ w')) hgrow (owns_ne HO2.out (Nat.lt_succ_self _)); have HG := Lib.hid (And.intro hown2 hgrow); clear hown2 hgrow))
        all_goals
          have HR : Row3 w1.heap.size pv (.bool cl) (.float .f32 cu) w2 := ⟨q0, q1, q2, d0, d1, d2⟩
          have HX := Lib.hid (And.intro (Row3.first (u := .slice (some ⟨gg, 0, none⟩) (k + 1) cc) HR) (And.intro (GrowR.step (Q := idP P) (ownsRow_setCell_other HG.out.1 (a := ⟨w1.heap.size, 0, none⟩) (owns_ne HG.out.1 (Nat.lt_succ_self _)) (.slice (some ⟨gg, 0, none⟩) (k + 1) cc)) HS.out HUV.out.1 HUV.out.2.1 HUV.out.2.2)
            (belowSet (j := 0) (u := .slice (some ⟨gg, 0, none⟩) (k + 1) cc) (Below.grown (belowAlloc HB2.out _) HG.out.2 (by simp; omega) (fun j hj => Nat.le_of_lt (owns_le HO2.out hj))) (Nat.le_refl _))))
          clear HR HG hat hlt1 HO2 HB2 HUV
          go_wp2_with fail
          go_roundw
          case rel => exact ⟨k + 1, by omega, by go_num, ⟨_, HX.out.1, HX.out.2.1⟩, HX.out.2.2⟩
          case measure => simp [intOf]; omega
      · obtain rfl : k = n := by omega
        obtain ⟨g, cap, rfl, hlg, hgl⟩ := HO.out.form (by omega)
        have HW := Lib.hid (WRow.owns HO.out).1
        go_wp2_with fail
        refine (impl_ifWire g k cap cu cl R hn _ HW.out.vs).mono ?_
        rw [valid_same HS.out]
        rintro e w3 ⟨rfl, bel⟩
        have HX := Lib.hid (And.intro (Row3.keep bel RW.out) (And.intro (WRow.keep bel HW.out) (belowNext (belowNext B1.out HB.out) bel)))
        obtain ⟨z0, z1, z2, y0, y1, y2⟩ := HX.out.1
        clear bel
        go_wp2_with fail
        obtain ⟨t0, t1, t2, _⟩ := Row3.set (a' := .slice (gA (validB (idP P) k cu) g) (gN (validB (idP P) k cu) k) (gN (validB (idP P) k cu) cap)) (b' := .bool (gC (validB (idP P) k cu) cl)) (c' := .float .f32 (gN (validB (idP P) k cu) cu)) HX.out.1
        refine bodyPost_ret (v := .tuple #[givenV (validB (idP P) k cu) g k cap cl cu, .bool (validB (idP P) k cu)]) (by simp [results, Try.results79, go_sem, t0, t1, t2]) rfl ?_
        have ng : g ≠ w.heap.size + 1 := by omega
        exact give_of rfl (fun hvq => ((((HX.out.2.1.congr (valid_eq HS.out hvq)).setOther ng).setOther ng).setOther ng)) (by omega) (by have := HX.out.2.1.lt; simpa using this) (belowSet (belowSet (belowSet HX.out.2.2 (by omega)) (by omega)) (by omega))
end Go.Proofs.Ytfcniebfoboogaa
