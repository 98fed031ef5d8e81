/- A wire of one's own; another current. Conditions: as each says. -/
import Derived.Test.YtfcniebfoboogaaSq
namespace Go.Proofs.Ytfcniebfoboogaa
open Go.RowKit
attribute [local go_sem ↓] Go.wp_at_zero Go.wp_at_succ

theorem vecL_at {P : Nat → Nat} {n j : Nat} {u : Value} (h : (vecL P n)[j]? = some u) : j < n * 3 ∧ u = .float .f32 (P j) := by
  rcases Nat.lt_or_ge j (n * 3) with l | l
  · unfold vecL at h
    rw [List.getElem?_map, List.getElem?_range l, Option.map_some, Option.some.injEq] at h
    exact ⟨l, h.symm⟩
  · rw [List.getElem?_eq_none (by unfold vecL; simpa using l)] at h
    cases h
theorem addrAdd (b o j : Nat) : (⟨b, o, none⟩ : Addr).add j = ⟨b, o + j, none⟩ := by
  unfold Addr.add
  split
  · rename_i h; subst h; rfl
  · rfl
theorem vecL_length (P : Nat → Nat) (n : Nat) : (vecL P n).length = n * 3 := by unfold vecL; simp
theorem vecL_one (P : Nat → Nat) (n : Nat) : ∀ u ∈ vecL P n, u.oneCell' = true := by
  intro u hu
  unfold vecL at hu
  obtain ⟨i, _, rfl⟩ := List.mem_map.1 hu
  rfl
/-- Returns a wire with points of its own. -/
def OwnW (n cu : Nat) (cl : Bool) (P : Nat → Nat) (w : World) (e : Ending) (w' : World) : Prop :=
  ∃ g cap, e = .returned (wireV (.slice (some ⟨g, 0, none⟩) n cap) cl cu) ∧ WRow g n P w' ∧ w.heap.size ≤ g ∧ Below w.heap.size w w'
/-- Returns points of one's own. -/
def OwnP (n : Nat) (P : Nat → Nat) (w : World) (e : Ending) (w' : World) : Prop :=
  ∃ g cap, e = .returned (.slice (some ⟨g, 0, none⟩) n cap) ∧ WRow g n P w' ∧ w.heap.size ≤ g ∧ Below w.heap.size w w'
/-- What the copying of a wire holds on to: the wire's cells. -/
abbrev OwnS (p b o n c cu : Nat) (cl : Bool) (w' : World) : Prop := w'.cell? ⟨p, 0, none⟩ = some (.slice (some ⟨b, o, none⟩) n c) ∧ w'.cell? ⟨p, 1, none⟩ = some (.bool cl) ∧ w'.cell? ⟨p, 2, none⟩ = some (.float .f32 cu)
theorem OwnS.keep {w1 w2 : World} {p b o n c cu : Nat} {cl : Bool} (h : OwnS p b o n c cu cl w1) (hb : Below w1.heap.size w1 w2) : OwnS p b o n c cu cl w2 := by
  obtain ⟨h0, h1, h2⟩ := h
  exact ⟨cellKeep hb h0, cellKeep hb h1, cellKeep hb h2⟩
theorem OwnS.grown {w1 w2 : World} {p b o n c cu : Nat} {cl : Bool} {v : Value} (h : OwnS p b o n c cu cl w1) (hg : w1.grownBy w2 v.ownBlock) (n2 : v.ownBlock ≠ some p) : OwnS p b o n c cu cl w2 := by
  obtain ⟨h0, h1, h2⟩ := h
  have k : ∀ {i : Nat} {u : Value}, w1.cell? ⟨p, i, none⟩ = some u → w2.cell? ⟨p, i, none⟩ = some u := fun {i u} h => by rw [hg.cell_far _ (World.block_lt_of_cell? _ _ h) (Ne.symm n2)]; exact h
  exact ⟨k h0, k h1, k h2⟩
theorem OwnS.set {w1 : World} {p b o n c cu g : Nat} {cl : Bool} {x y z : Value} (h : OwnS p b o n c cu cl w1) (hp : p ≠ g) : OwnS p b o n c cu cl (((w1.setCell ⟨g, 0, none⟩ x).setCell ⟨g, 1, none⟩ y).setCell ⟨g, 2, none⟩ z) := by
  obtain ⟨h0, h1, h2⟩ := h
  exact ⟨cellAt (cellAt (cellAt h0 hp) hp) hp, cellAt (cellAt (cellAt h1 hp) hp) hp, cellAt (cellAt (cellAt h2 hp) hp) hp⟩
set_option maxRecDepth 100000 in
theorem spec_own (p b o n c cu : Nat) (cl : Bool) (P : Nat → Nat) (h1 : 1 ≤ n) (h48 : n ≤ 48) (w : World) (c0 : w.cell? ⟨p, 0, none⟩ = some (.slice (some ⟨b, o, none⟩) n c)) (c1 : w.cell? ⟨p, 1, none⟩ = some (.bool cl)) (c2 : w.cell? ⟨p, 2, none⟩ = some (.float .f32 cu)) (hv : VS w b o n P) :
    Calls Try.prog 77 #[.pointer (some ⟨p, 0, none⟩)] w (OwnW n cu cl P w) := by
  obtain ⟨i0, hi0, hz0, hz1, hz2⟩ := info_parts infoV
  have HV := Lib.hid hv
  have lp : p < w.heap.size := World.block_lt_of_cell? _ _ c0
  have lb : b < w.heap.size := World.block_lt_of_cell? _ _ (hv.three (k := 0) (by omega)).1
  clear hv
  go_enter Try.func77, Try.ntmps77
  go_wp2_with fail
  have k0 := cellAlloc c0 (.cells #[.slice none 0 0, .bool false, .float .f32 0] 30)
  have k1 := cellAlloc c1 (.cells #[.slice none 0 0, .bool false, .float .f32 0] 30)
  have k2 := cellAlloc c2 (.cells #[.slice none 0 0, .bool false, .float .f32 0] 30)
  have rz := Row3.new w (.slice none 0 0) (.bool false) (.float .f32 0) 30
  have ho := World.ownsRow_lit (base := w.heap.size + 1) (e := 49) (size := 3) (w.alloc (.cells #[.slice none 0 0, .bool false, .float .f32 0] 30)) #[] 0 (by simp) (by unfold maxLen; omega) rfl
  simp only [World.size_alloc] at ho
  have HO := Lib.hid ho
  have RZ := Lib.hid (Row3.new w (.slice none 0 0) (.bool false) (.float .f32 0) 30)
  have S0 : OwnS p b o n c cu cl (w.alloc (.cells #[.slice none 0 0, .bool false, .float .f32 0] 30)) := ⟨k0, k1, k2⟩
  have np : p ≠ w.heap.size := by omega
  clear ho rz
  go_region_held3 (fun w' => OwnS p b o n c cu cl w')
    (first
      | exact S0
      | go_keep
      | exact OwnS.keep (by assumption) (belowAlloc (Below.refl _ _) _)
      | exact OwnS.grown (by assumption) hgrow (by simp [Value.ownBlock]; omega)
      | exact OwnS.set (by assumption) np)
    ((refine step_append_lies _ (by rfl) _ _ _ (by rfl) (w.heap.size + 1) 49 i0 _ 3 12 Try.underlying28 hi0 hz0 hz1 hz2 rfl (by omega) _ 0 _ (by rfl) HO.out.drew
        ⟨b, o, none⟩ n c (vecL P n) (by rfl) (vecL_length P n) (fun j u hj => by obtain ⟨l, rfl⟩ := vecL_at hj; rw [addrAdd]; show ((w.alloc (.cells #[.slice none 0 0, .bool false, .float .f32 0] 30)).alloc (.cells #[] 49)).cell? ⟨b, o + j, none⟩ = _; exact cellAlloc (cellAlloc (HV.out j l) _) _) (vecL_one P n)
        (by omega) (by unfold maxLen; omega) (by omega) (by simp) (w.heap.size + 1 + 1) (by simp) ?_; intro gg cc w1 hown1 hgrow hat hlt1; obtain ⟨q0, q1, q2, e0, e1, e2⟩ := Row3.grown (Row3.keep (belowAlloc (Below.refl _ _) (.cells #[] 49)).drew RZ.out) hgrow (by simp [Value.ownBlock])))
  have HB := Lib.hid (Below.grown (belowAlloc (belowAlloc (Below.refl w.heap.size w) (.cells #[.slice none 0 0, .bool false, .float .f32 0] 30)) (.cells #[] 49)).drew hgrow (by simp; omega) (fun k hk => by simp only [Value.ownBlock, Option.some.injEq] at hk; omega))
  simp only [Nat.zero_add, List.nil_append] at hown1
  obtain ⟨hw, hlg⟩ := WRow.owns hown1
  have HW := Lib.hid hw
  have RQ : Row3 w.heap.size (.slice none 0 0) (.bool false) (.float .f32 0) w1 := ⟨q0, q1, q2, e0, e1, e2⟩
  obtain ⟨t0, t1, t2, _⟩ := Row3.set (a' := .slice (some ⟨gg, 0, none⟩) n cc) (b' := .bool cl) (c' := .float .f32 cu) RQ
  clear hgrow hown1 hat hw RQ
  go_wp2_with fail
  refine bodyPost_ret (v := wireV (.slice (some ⟨gg, 0, none⟩) n cc) cl cu) (by simp [results, Try.results77, go_sem, t0, t1, t2]) rfl ?_
  have ng : gg ≠ w.heap.size := by omega
  exact ⟨gg, cc, rfl, ((HW.out.setOther ng).setOther ng).setOther ng, by omega, belowSet (belowSet (belowSet HB.out (Nat.le_refl _)) (Nat.le_refl _)) (Nat.le_refl _)⟩
set_option maxRecDepth 100000 in
theorem clone_V (b o n c : Nat) (P : Nat → Nat) (h1 : 1 ≤ n) (h48 : n ≤ 48) (w : World) (hv : VS w b o n P) :
    Calls Try.prog 78 #[.slice (some ⟨b, o, none⟩) n c] w (OwnP n P w) := by
  obtain ⟨i0, hi0, hz0, hz1, hz2⟩ := info_parts infoV
  have HV := Lib.hid hv
  clear hv
  have q : ∀ (w : World) (a : Option Addr) (n c n' c' : Nat), (binOp .eql 28 (.slice a n c) (.slice none n' c')).run Try.prog w = .ok (.bool a.isNone) w := fun w a n c n' c' => Lib.run_eql_slice_nil w _ _ a n c n' c' Try.underlying28
  have HO := Lib.hid (World.ownsRow_lit (base := w.heap.size) (e := 49) (size := 3) w #[] 0 (by simp) (by unfold maxLen; omega) rfl)
  go_enter Try.func78, Try.ntmps78
  go_wp2_with (first
    | (at_builtin; refine wpList_append_lies _ rfl _ _ 28 rfl w.heap.size 49 i0 _ 3 12 Try.underlying28 hi0 hz0 hz1 hz2 rfl (by decide) _ 0 _ rfl HO.out ⟨b, o, none⟩ n c (vecL P n) rfl (vecL_length P n) (fun j u hj => by obtain ⟨l, rfl⟩ := vecL_at hj; rw [addrAdd]; exact cellAlloc (HV.out j l) _) (vecL_one P n) (by omega) (by unfold maxLen; omega) (by omega) (by simp) (w.heap.size + 1) (by simp) ?_; intro gg cc w1 hown1 hgrow hat hlt1))
  have HB := Lib.hid (Below.grown (belowAlloc (Below.refl w.heap.size w) (.cells #[] 49)) hgrow (by simp) (fun k hk => by cases hk; exact Nat.le_refl _))
  simp only [Nat.zero_add, List.nil_append] at hown1
  obtain ⟨hw, hlg⟩ := WRow.owns hown1
  have HW := Lib.hid hw
  clear hgrow hown1 hat hw
  go_wp2_with fail
  go_ret
  exact ⟨gg, cc, rfl, HW.out, hlg, HB.out⟩
/-- The wire is valid, and with the other current. -/
def feedB (P : Nat → Nat) (n cu cv : Nat) : Bool := validB P n cu && validB P n cv
theorem boxTwo {w w1 : World} {a b c x y z : Value} {t u : TypeId} (bel : Below ((w.alloc (.cells #[a, b, c] t)).alloc (.cells #[x, y, z] u)).heap.size ((w.alloc (.cells #[a, b, c] t)).alloc (.cells #[x, y, z] u)) w1) : Row3 w.heap.size a b c w1 ∧ Row3 (w.heap.size + 1) x y z w1 := by
  have r := Row3.keep bel (Row3.new (w.alloc (.cells #[a, b, c] t)) x y z u)
  rw [World.size_alloc] at r
  exact ⟨Row3.keep bel (Row3.keep (belowAlloc (Below.refl _ _) _) (Row3.new w a b c t)), r⟩
theorem spec_FeedWire (b o n c cu cv : Nat) (cl : Bool) (P : Nat → Nat) (hn : n ≤ 9223372036854775807) (w : World) (hv : VS w b o n P) :
    Calls Try.prog 36 #[wireV (.slice (some ⟨b, o, none⟩) n c) cl cu, .float .f32 cv] w (GiveW (gN (feedB P n cu cv) n) (gC (feedB P n cu cv) cl) (gN (feedB P n cu cv) cv) (feedB P n cu cv) P w) := by
  have HV := Lib.hid hv
  clear hv
  cases hval : validB P n cu
  · have hb : feedB P n cu cv = false := by unfold feedB; rw [hval, Bool.false_and]
    rw [hb]
    go_enter Try.func36, Try.ntmps36
    go_wp2_with fail
    refine (spec_is _ b o n c cu P hn _ ?_ ?_ ?_).mono ?_
    · simp
    · simp
    · exact VS.keep (belowAlloc (belowAlloc (Below.refl _ _) _) _) HV.out
    rw [hval]
    rintro e w1 ⟨rfl, bel⟩
    have RZ := Lib.hid (boxTwo bel).2
    obtain ⟨z0, z1, z2, zf0, zf1, zf2⟩ := RZ.out
    have B1 := Lib.hid (belowNext (belowAlloc (belowAlloc (Below.refl w.heap.size w) _) _) bel)
    clear bel
    go_wp2_with fail
    obtain ⟨t0, t1, t2, _⟩ := Row3.set (a' := .slice none 0 0) (b' := .bool false) (c' := .float .f32 0) RZ.out
    refine bodyPost_ret (v := .tuple #[givenV false (w.heap.size + 1) n c cl cv, .bool false]) (by simp [results, Try.results36, go_sem, t0, t1, t2, gN, gC, gA]) rfl ?_
    exact give_of rfl (fun h => by cases h) (Nat.le_succ _) (World.block_lt_of_cell? _ _ t0) (belowSet (belowSet (belowSet B1.out (Nat.le_succ _)) (Nat.le_succ _)) (Nat.le_succ _))
  · obtain ⟨h2, h48⟩ := valid_bounds hval
    have hb : feedB P n cu cv = validB P n cv := by unfold feedB; rw [hval, Bool.true_and]
    rw [hb]
    clear hb
    go_enter Try.func36, Try.ntmps36
    go_wp2_with fail
    refine (spec_is _ b o n c cu P hn _ ?_ ?_ ?_).mono ?_
    · simp
    · simp
    · exact VS.keep (belowAlloc (belowAlloc (Below.refl _ _) _) _) HV.out
    rw [hval]
    rintro e w1 ⟨rfl, bel⟩
    have RZ := Lib.hid (boxTwo bel).2
    obtain ⟨k0, k1, k2, kf0, kf1, kf2⟩ := (boxTwo bel).1
    have V1 := Lib.hid (VS.keep bel (VS.keep (belowAlloc (belowAlloc (Below.refl _ _) _) _) HV.out))
    have B1 := Lib.hid (belowNext (belowAlloc (belowAlloc (Below.refl w.heap.size w) _) _) bel)
    clear bel
    go_wp2_with fail
    refine (spec_own w.heap.size b o n c cu cl P (by omega) h48 _ k0 k1 k2 V1.out).mono ?_
    rintro e w2 ⟨g, cap, rfl, hw, hlg, bel⟩
    have RZ2 := Lib.hid (Row3.keep bel RZ.out)
    have B2 := Lib.hid (belowNext B1.out bel)
    have HW := Lib.hid hw
    have l1 : w.heap.size + 1 < w1.heap.size := World.block_lt_of_cell? _ _ RZ.out.1
    have lg : g < w2.heap.size := hw.lt
    clear bel hw k0 k1 k2 kf0 kf1 kf2
    go_wp2_with fail
    refine (spec_give g n cap cv cl P hn _ (HW.out.keep (belowAlloc (Below.refl _ _) _)).vs).mono ?_
    rintro e w3 ⟨rfl, bel⟩
    have HX := Lib.hid (And.intro (Row3.keep bel (Row3.keep (belowAlloc (Below.refl _ _) _) RZ2.out)) (And.intro (WRow.keep bel (HW.out.keep (belowAlloc (Below.refl _ _) _))) (belowNext (belowAlloc B2.out _) bel)))
    obtain ⟨z0, z1, z2, y0, y1, y2⟩ := HX.out.1
    clear bel
    go_wp2_with fail
    obtain ⟨t0, t1, t2, _⟩ := Row3.set (a' := .slice (gA (validB P n cv) g) (gN (validB P n cv) n) (gN (validB P n cv) cap)) (b' := .bool (gC (validB P n cv) cl)) (c' := .float .f32 (gN (validB P n cv) cv)) HX.out.1
    refine bodyPost_ret (v := .tuple #[givenV (validB P n cv) g n cap cl cv, .bool (validB P n cv)]) (by simp [results, Try.results36, go_sem, t0, t1, t2]) rfl ?_
    have ng : g ≠ w.heap.size + 1 := by omega
    exact give_of rfl (fun _ => ((HX.out.2.1.setOther ng).setOther ng).setOther ng) (by omega) (by have := HX.out.2.1.lt; simpa using this) (belowSet (belowSet (belowSet HX.out.2.2 (Nat.le_succ _)) (Nat.le_succ _)) (Nat.le_succ _))
theorem impl_FeedWire (b o n c cu cv : Nat) (cl : Bool) (P : Nat → Nat) (hn : n ≤ 9223372036854775807) (w : World) (hv : VS w b o n P) :
    Calls Try.prog 37 #[wireV (.slice (some ⟨b, o, none⟩) n c) cl cu, .float .f32 cv] w (GiveW (gN (feedB P n cu cv) n) (gC (feedB P n cu cv) cl) (gN (feedB P n cu cv) cv) (feedB P n cu cv) P w) := by
  have HV := Lib.hid hv
  clear hv
  cases hval : validB P n cu
  · have hb : feedB P n cu cv = false := by unfold feedB; rw [hval, Bool.false_and]
    rw [hb]
    go_enter Try.func37, Try.ntmps37
    go_wp2_with fail
    refine (impl_ValidWire b o n c cu cl P hn _ (VS.keep (belowAlloc (belowAlloc (Below.refl _ _) _) _) HV.out)).mono ?_
    rw [hval]
    rintro e w1 ⟨rfl, bel⟩
    have RZ := Lib.hid (boxTwo bel).2
    obtain ⟨z0, z1, z2, zf0, zf1, zf2⟩ := RZ.out
    have B1 := Lib.hid (belowNext (belowAlloc (belowAlloc (Below.refl w.heap.size w) _) _) bel)
    clear bel
    go_wp2_with fail
    obtain ⟨t0, t1, t2, _⟩ := Row3.set (a' := .slice none 0 0) (b' := .bool false) (c' := .float .f32 0) RZ.out
    refine bodyPost_ret (v := .tuple #[givenV false (w.heap.size + 1) n c cl cv, .bool false]) (by simp [results, Try.results37, go_sem, t0, t1, t2, gN, gC, gA]) rfl ?_
    exact give_of rfl (fun h => by cases h) (Nat.le_succ _) (World.block_lt_of_cell? _ _ t0) (belowSet (belowSet (belowSet B1.out (Nat.le_succ _)) (Nat.le_succ _)) (Nat.le_succ _))
  · obtain ⟨h2, h48⟩ := valid_bounds hval
    have hb : feedB P n cu cv = validB P n cv := by unfold feedB; rw [hval, Bool.true_and]
    rw [hb]
    clear hb
    go_enter Try.func37, Try.ntmps37
    go_wp2_with fail
    refine (impl_ValidWire b o n c cu cl P hn _ (VS.keep (belowAlloc (belowAlloc (Below.refl _ _) _) _) HV.out)).mono ?_
    rw [hval]
    rintro e w1 ⟨rfl, bel⟩
    have RZ := Lib.hid (boxTwo bel).2
    obtain ⟨k0, k1, k2, kf0, kf1, kf2⟩ := (boxTwo bel).1
    have V1 := Lib.hid (VS.keep bel (VS.keep (belowAlloc (belowAlloc (Below.refl _ _) _) _) HV.out))
    have B1 := Lib.hid (belowNext (belowAlloc (belowAlloc (Below.refl w.heap.size w) _) _) bel)
    have l1 : w.heap.size + 1 < w1.heap.size := World.block_lt_of_cell? _ _ RZ.out.1
    clear bel
    go_wp2_with fail
    go_region_with (first
      | (go_at_call 78; refine (clone_V b o n c P (by omega) h48 _ (show VS (World.drew _) _ _ _ _ from V1.out)).mono ?_; rintro e w2 ⟨g, cap, rfl, hw, hlg, bel⟩; have k1' := cellKeep bel (show World.cell? (World.drew _) _ = _ from k1); have RZ2 := Lib.hid (Row3.keep bel (show Row3 _ _ _ _ (World.drew _) from RZ.out)); have B2 := Lib.hid (belowNext B1.out.drew bel); have HW := Lib.hid hw; have lg : w1.heap.size ≤ g := hlg; clear bel hw hlg)
      | (go_at_call 66; refine (impl_ifWire g n cap cv cl P hn _ HW.out.vs).mono ?_; rintro e w3 ⟨rfl, bel⟩; have HX := Lib.hid (And.intro (Row3.keep bel RZ2.out) (And.intro (WRow.keep bel HW.out) (belowNext B2.out bel))); obtain ⟨z0, z1, z2, y0, y1, y2⟩ := HX.out.1; clear bel))
    all_goals
      obtain ⟨t0, t1, t2, _⟩ := Row3.set (a' := .slice (gA (validB P n cv) g) (gN (validB P n cv) n) (gN (validB P n cv) cap)) (b' := .bool (gC (validB P n cv) cl)) (c' := .float .f32 (gN (validB P n cv) cv)) HX.out.1
      go_wp2_with fail
      refine bodyPost_ret (v := .tuple #[givenV (validB P n cv) g n cap cl cv, .bool (validB P n cv)]) (by simp [results, Try.results37, go_sem, t0, t1, t2]) rfl ?_
      have ng : g ≠ w.heap.size + 1 := by omega
      exact give_of rfl (fun _ => ((HX.out.2.1.setOther ng).setOther ng).setOther ng) (by omega) (by have := HX.out.2.1.lt; simpa using this) (belowSet (belowSet (belowSet HX.out.2.2 (Nat.le_succ _)) (Nat.le_succ _)) (Nat.le_succ _))
end Go.Proofs.Ytfcniebfoboogaa
