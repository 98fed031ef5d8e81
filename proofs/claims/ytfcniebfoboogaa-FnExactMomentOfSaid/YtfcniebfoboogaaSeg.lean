/- The segments of a wire. Conditions: as each says. -/
import Derived.Test.YtfcniebfoboogaaMid
import Derived.Deep.AppendLies
import Derived.OwnWalk
namespace Go.Proofs.Ytfcniebfoboogaa
open Go.RowKit
attribute [local go_sem ↓] Go.wp_at_zero Go.wp_at_succ

/-- The cells of the segments: each has its first point and the next one. -/
def segC (P : Nat → Nat) (n : Nat) (j : Nat) : Nat := if j % 6 < 3 then P (j / 6 * 3 + j % 6) else P ((j / 6 + 1) % n * 3 + (j % 6 - 3))
def segL (P : Nat → Nat) (n m : Nat) : List Value := (List.range (m * 6)).map fun j => .float .f32 (segC P n j)
theorem infoS : (Try.prog.info? 91).map (fun i => (i.zero, i.size, i.bytes)) = some (some (.agg #[.float .f32 0, .float .f32 0, .float .f32 0, .float .f32 0, .float .f32 0, .float .f32 0]), 6, 24) := by kernel_rfl
theorem segL_succ (P : Nat → Nat) (n m : Nat) : segL P n (m + 1) = segL P n m ++ [.float .f32 (segC P n (m * 6)), .float .f32 (segC P n (m * 6 + 1)), .float .f32 (segC P n (m * 6 + 2)), .float .f32 (segC P n (m * 6 + 3)), .float .f32 (segC P n (m * 6 + 4)), .float .f32 (segC P n (m * 6 + 5))] := by
  unfold segL
  rw [show (m + 1) * 6 = m * 6 + 6 by omega, List.range_add, List.map_append, List.map_map]
  rfl
theorem segC_at (P : Nat → Nat) (n m : Nat) : segC P n (m * 6) = P (m * 3) ∧ segC P n (m * 6 + 1) = P (m * 3 + 1) ∧ segC P n (m * 6 + 2) = P (m * 3 + 2) ∧
    segC P n (m * 6 + 3) = P ((m + 1) % n * 3) ∧ segC P n (m * 6 + 4) = P ((m + 1) % n * 3 + 1) ∧ segC P n (m * 6 + 5) = P ((m + 1) % n * 3 + 2) := by
  unfold segC
  have e0 : m * 6 % 6 = 0 ∧ m * 6 / 6 = m := by omega
  have e1 : (m * 6 + 1) % 6 = 1 ∧ (m * 6 + 1) / 6 = m := by omega
  have e2 : (m * 6 + 2) % 6 = 2 ∧ (m * 6 + 2) / 6 = m := by omega
  have e3 : (m * 6 + 3) % 6 = 3 ∧ (m * 6 + 3) / 6 = m := by omega
  have e4 : (m * 6 + 4) % 6 = 4 ∧ (m * 6 + 4) / 6 = m := by omega
  have e5 : (m * 6 + 5) % 6 = 5 ∧ (m * 6 + 5) / 6 = m := by omega
  simp [e0, e1, e2, e3, e4, e5]
/-- The segments behind m rounds: a row of the call's own. -/
def Segs (w : World) (P : Nat → Nat) (n m : Nat) (v : Value) (wr : World) : Prop := ∃ g cap, v = .slice (some ⟨g, 0, none⟩) m cap ∧ wr.ownsRow (w.heap.size + 1) 91 6 (.slice (some ⟨g, 0, none⟩) m cap) m (segL P n m)
/-- How many segments. -/
def segN (cl : Bool) (n : Nat) : Nat := if cl then n else n - 1
/-- Returns m segments, a row of the call's own. -/
def SegPost (P : Nat → Nat) (n m : Nat) (w : World) (e : Ending) (w' : World) : Prop := ∃ g cap, e = .returned (.slice (some ⟨g, 0, none⟩) m cap) ∧ w'.ownsRow (w.heap.size + 1) 91 6 (.slice (some ⟨g, 0, none⟩) m cap) m (segL P n m) ∧ Below w.heap.size w w'
set_option maxRecDepth 100000 in
set_option maxHeartbeats 3200000 in
theorem impl_segments (b o n c cu : Nat) (cl : Bool) (P : Nat → Nat) (h2 : 2 ≤ n) (h48 : n ≤ 48) (w : World) (hv : VS w b o n P) :
    Calls Try.prog 62 #[wireV (.slice (some ⟨b, o, none⟩) n c) cl cu] w (SegPost P n (segN cl n) w) := by
  have HV := Lib.hid hv
  have hbs : b < w.heap.size := World.block_lt_of_cell? _ _ (hv.three (k := 0) (by omega)).1
  obtain ⟨i0, hi0, hz0, hz1, hz2⟩ := info_parts infoS
  clear hv
  go_enter Try.func62, Try.ntmps62
  go_wp2_with fail
  go_loopw [3, 5] (fun v i wr => ∃ m : Nat, m + 1 ≤ n ∧ i = .int .i64 ((m : Int) + 1) ∧ Segs w P n m v wr ∧ wr.cell? ⟨w.heap.size, 0, none⟩ = some (.slice (some ⟨b, o, none⟩) n c) ∧ wr.cell? ⟨w.heap.size, 1, none⟩ = some (.bool cl) ∧ Below w.heap.size w wr) (fun _ i _ => n - (intOf i).toNat)
  case atStart =>
    refine ⟨0, by omega, rfl, ⟨w.heap.size + 1, 0, rfl, ?_⟩, by simp, by simp, belowAlloc (belowAlloc (Below.refl _ _) _) _⟩
    have e := World.ownsRow_lit (base := w.heap.size + 1) (e := 91) (size := 6) (w.alloc (.cells #[.slice (some ⟨b, o, none⟩) n c, .bool cl, .float .f32 cu] 30)) #[] 0 (by simp) (by unfold maxLen; omega) rfl
    simp only [World.size_alloc] at e
    exact e
  case round =>
    obtain ⟨m, hm, rfl, ⟨g, cap, rfl, hown⟩, k0, k1, hbel⟩ := hrel
    have hvw := Lib.hid (VS.keep hbel HV.out)
    have HB := Lib.hid hbel
    have HO := Lib.hid hown
    have lb : b < wr.heap.size := Nat.lt_of_lt_of_le hbs hbel.size
    have lw : w.heap.size < wr.heap.size := World.block_lt_of_cell? _ _ k0
    have lg := hown.lt g rfl
    have ng1 : g ≠ w.heap.size := by omega
    have ng2 : g ≠ b := by omega
    clear hbel hown
    by_cases hlt : m + 1 < n
    · obtain ⟨x1, x2, x3⟩ := hvw.out.three (k := m) (by omega)
      obtain ⟨y1, y2, y3⟩ := hvw.out.three (k := m + 1) hlt
      have q0 : (0 : Int) ≤ (m : Int) := by omega
      have q1 : (m : Int) < (n : Int) := by omega
      have q2 : (0 : Int) ≤ (m : Int) + 1 := by omega
      have q3 : (m : Int) + 1 < (n : Int) := by omega
      have hw1 : IntKind.i64.wrap ((m : Int) + 1 - 1) = (m : Int) := by rw [Int.add_sub_cancel]; exact IntWalk.i64_in _ (by omega)
      have hw2 : ((m : Int) + 1).toNat = m + 1 := by omega
      have hw3 : IntKind.i64.wrap (m : Int) = (m : Int) := IntWalk.i64_in _ (by omega)
      go_wp2_with fail
      go_region_held3 (fun w' => w'.cell? ⟨w.heap.size, 0, none⟩ = some (.slice (some ⟨b, o, none⟩) n c) ∧ w'.cell? ⟨w.heap.size, 1, none⟩ = some (.bool cl) ∧
          w'.cell? ⟨b, o + m * 3, none⟩ = some (.float .f32 (P (m * 3))) ∧ w'.cell? ⟨b, o + m * 3 + 1, none⟩ = some (.float .f32 (P (m * 3 + 1))) ∧ w'.cell? ⟨b, o + m * 3 + 2, none⟩ = some (.float .f32 (P (m * 3 + 2))) ∧
          w'.cell? ⟨b, o + (m + 1) * 3, none⟩ = some (.float .f32 (P ((m + 1) * 3))) ∧ w'.cell? ⟨b, o + (m + 1) * 3 + 1, none⟩ = some (.float .f32 (P ((m + 1) * 3 + 1))) ∧ w'.cell? ⟨b, o + (m + 1) * 3 + 2, none⟩ = some (.float .f32 (P ((m + 1) * 3 + 2))))
        (first
          | exact ⟨k0, k1, x1, x2, x3, y1, y2, y3⟩
          | go_keep
          | (go_split_ands; refine ⟨?_, ?_, ?_, ?_, ?_, ?_, ?_, ?_⟩ <;> (rw [hgrow.cell_far _ (by simp; omega) (by simp [Value.ownBlock]; omega)]; assumption)))
        ((refine step_append_lies _ (by rfl) _ _ _ (by rfl) (w.heap.size + 1) 91 i0 _ 6 24 Try.underlying72 hi0 hz0 hz1 hz2 rfl (by omega) _ m _ (by rfl) ((HO.out.alloc _).drew)
              ⟨wr.heap.size, 0, none⟩ 1 1 [.float .f32 (P (m * 3)), .float .f32 (P (m * 3 + 1)), .float .f32 (P (m * 3 + 2)), .float .f32 (P ((m + 1) * 3)), .float .f32 (P ((m + 1) * 3 + 1)), .float .f32 (P ((m + 1) * 3 + 2))] (by rfl) (by rfl) (World.news_of_block (cs := #[.float .f32 (P (m * 3)), .float .f32 (P (m * 3 + 1)), .float .f32 (P (m * 3 + 2)), .float .f32 (P ((m + 1) * 3)), .float .f32 (P ((m + 1) * 3 + 1)), .float .f32 (P ((m + 1) * 3 + 2))]) (t := 91) (fr := (0, 0)) (heap_alloc_new wr _)) (by simp [Value.oneCell'])
              (by omega) (by unfold maxLen; omega) (by omega) (by simp; omega) (wr.heap.size + 1) (by simp) ?_; intro gg cc w1 hown1 hgrow hat hlt1))
      obtain ⟨k0', k1', _⟩ := ‹w1.cell? ⟨w.heap.size, 0, none⟩ = some (.slice (some ⟨b, o, none⟩) n c) ∧ _›
      have hb1 := Below.grown (belowAlloc HB.out _).drew hgrow (by simp; omega) (fun k hk => by cases hk; exact (show w.heap.size ≤ g by omega))
      have e6 : segL P n (m + 1) = segL P n m ++ [.float .f32 (P (m * 3)), .float .f32 (P (m * 3 + 1)), .float .f32 (P (m * 3 + 2)), .float .f32 (P ((m + 1) * 3)), .float .f32 (P ((m + 1) * 3 + 1)), .float .f32 (P ((m + 1) * 3 + 2))] := by
        obtain ⟨s0, s1, s2, s3, s4, s5⟩ := segC_at P n m
        rw [segL_succ, s0, s1, s2, s3, s4, s5, Nat.mod_eq_of_lt hlt]
      have HX := Lib.hid (And.intro (show Segs w P n (m + 1) (.slice (some ⟨gg, 0, none⟩) (m + 1) cc) w1 from ⟨gg, cc, rfl, by rw [e6]; exact hown1⟩) hb1)
      clear hgrow hown1 hat hlt1 hb1 e6
      go_wp2_with fail
      go_roundw
      case rel => exact ⟨m + 1, by omega, by go_num, HX.out.1, k0', k1', HX.out.2⟩
      case measure => simp [intOf]; omega
    · obtain rfl : n = m + 1 := by omega
      cases cl
      · go_wp2_with fail
        go_ret
        exact ⟨g, cap, rfl, HO.out, HB.out⟩
      · obtain ⟨x1, x2, x3⟩ := hvw.out.three (k := m) (by omega)
        obtain ⟨y1, y2, y3⟩ := hvw.out.three (k := 0) (by omega)
        simp only [Nat.zero_mul, Nat.add_zero, Nat.zero_add] at y1 y2 y3
        have q0 : (0 : Int) ≤ (m : Int) := by omega
        have q2 : (m : Int) < (m : Int) + 1 := by omega
        have hw1 : IntKind.i64.wrap ((m : Int) + 1 - 1) = (m : Int) := by rw [Int.add_sub_cancel]; exact IntWalk.i64_in _ (by omega)
        have hw3 : IntKind.i64.wrap (m : Int) = (m : Int) := IntWalk.i64_in _ (by omega)
        have q4 : (0 : Int) < (m : Int) + 1 := by omega
        go_wp2_with fail
        go_region_held3 (fun w' => w'.cell? ⟨w.heap.size, 0, none⟩ = some (.slice (some ⟨b, o, none⟩) (m + 1) c) ∧ w'.cell? ⟨w.heap.size, 1, none⟩ = some (.bool true) ∧
            w'.cell? ⟨b, o + m * 3, none⟩ = some (.float .f32 (P (m * 3))) ∧ w'.cell? ⟨b, o + m * 3 + 1, none⟩ = some (.float .f32 (P (m * 3 + 1))) ∧ w'.cell? ⟨b, o + m * 3 + 2, none⟩ = some (.float .f32 (P (m * 3 + 2))) ∧
            w'.cell? ⟨b, o, none⟩ = some (.float .f32 (P 0)) ∧ w'.cell? ⟨b, o + 1, none⟩ = some (.float .f32 (P 1)) ∧ w'.cell? ⟨b, o + 2, none⟩ = some (.float .f32 (P 2)))
          (first
            | exact ⟨k0, k1, x1, x2, x3, y1, y2, y3⟩
            | go_keep
            | (go_split_ands; refine ⟨?_, ?_, ?_, ?_, ?_, ?_, ?_, ?_⟩ <;> (rw [hgrow.cell_far _ (by simp; omega) (by simp [Value.ownBlock]; omega)]; assumption)))
          ((refine step_append_lies _ (by rfl) _ _ _ (by rfl) (w.heap.size + 1) 91 i0 _ 6 24 Try.underlying72 hi0 hz0 hz1 hz2 rfl (by omega) _ m _ (by rfl) ((HO.out.alloc _).drew)
                ⟨wr.heap.size, 0, none⟩ 1 1 [.float .f32 (P (m * 3)), .float .f32 (P (m * 3 + 1)), .float .f32 (P (m * 3 + 2)), .float .f32 (P 0), .float .f32 (P 1), .float .f32 (P 2)] (by rfl) (by rfl) (World.news_of_block (cs := #[.float .f32 (P (m * 3)), .float .f32 (P (m * 3 + 1)), .float .f32 (P (m * 3 + 2)), .float .f32 (P 0), .float .f32 (P 1), .float .f32 (P 2)]) (t := 91) (fr := (0, 0)) (heap_alloc_new wr _)) (by simp [Value.oneCell'])
                (by omega) (by unfold maxLen; omega) (by omega) (by simp; omega) (wr.heap.size + 1) (by simp) ?_; intro gg cc w1 hown1 hgrow hat hlt1))
        have hb1 := Below.grown (belowAlloc HB.out _).drew hgrow (by simp; omega) (fun k hk => by cases hk; exact (show w.heap.size ≤ g by omega))
        have e6 : segL P (m + 1) (m + 1) = segL P (m + 1) m ++ [.float .f32 (P (m * 3)), .float .f32 (P (m * 3 + 1)), .float .f32 (P (m * 3 + 2)), .float .f32 (P 0), .float .f32 (P 1), .float .f32 (P 2)] := by
          obtain ⟨s0, s1, s2, s3, s4, s5⟩ := segC_at P (m + 1) m
          rw [segL_succ, s0, s1, s2, s3, s4, s5, Nat.mod_self]
        have HX := Lib.hid (And.intro (show Segs w P (m + 1) (m + 1) (.slice (some ⟨gg, 0, none⟩) (m + 1) cc) w1 from ⟨gg, cc, rfl, by rw [e6]; exact hown1⟩) hb1)
        clear hgrow hown1 hat hlt1 hb1 e6
        go_wp2_with fail
        go_ret
        obtain ⟨⟨g2, c2, he, ho⟩, hb2⟩ := HX.out
        cases he
        exact ⟨_, _, rfl, ho, hb2⟩
theorem spec_count (p b o n c : Nat) (cl : Bool) (h1 : 1 ≤ n) (hn : n ≤ 9223372036854775807) (w : World) (c0 : w.cell? ⟨p, 0, none⟩ = some (.slice (some ⟨b, o, none⟩) n c)) (c1 : w.cell? ⟨p, 1, none⟩ = some (.bool cl)) :
    Calls Try.prog 61 #[.pointer (some ⟨p, 0, none⟩)] w fun e w' => e = .returned (.int .i64 (segN cl n : Nat)) ∧ w = w' := by
  cases cl
  · have e : ((segN false n : Nat) : Int) = (n : Int) - 1 := by unfold segN; simp; omega
    rw [e]
    clear e
    go_enter Try.func61, Try.ntmps61
    go_wp2_with fail
    go_ret
    exact ⟨rfl, rfl⟩
  · have e : ((segN true n : Nat) : Int) = (n : Int) := by unfold segN; simp
    rw [e]
    clear e
    go_enter Try.func61, Try.ntmps61
    go_wp2_with fail
    go_ret
    exact ⟨rfl, rfl⟩
/-- Returns an integer and a flag. -/
def IntFlag (N : Nat) (b : Bool) (w : World) (e : Ending) (w' : World) : Prop := e = .returned (.tuple #[.int .i64 (if b then (N : Int) else 0), .bool b]) ∧ Below w.heap.size w w'
theorem spec_SegmentsOf (b o n c cu : Nat) (cl : Bool) (P : Nat → Nat) (hn : n ≤ 9223372036854775807) (w : World) (hv : VS w b o n P) :
    Calls Try.prog 22 #[wireV (.slice (some ⟨b, o, none⟩) n c) cl cu] w (IntFlag (segN cl n) (validB P n cu) w) := by
  have HV := Lib.hid hv
  clear hv
  cases hval : validB P n cu
  all_goals
    go_enter Try.func22, Try.ntmps22
    go_wp2_with fail
    refine (spec_is _ b o n c cu P hn _ ?_ ?_ ?_).mono ?_
    · simp
    · simp
    · exact VS.keep (belowAlloc (Below.refl _ _) _) HV.out
    rw [hval]
    rintro e w1 ⟨rfl, bel⟩
    obtain ⟨k0, k1, k2, _⟩ := newCells bel
    have B1 := Lib.hid (belowNext (belowAlloc (Below.refl w.heap.size w) _) bel)
    clear bel
    go_wp2_with fail
  · go_ret2
    exact ⟨rfl, B1.out⟩
  · obtain ⟨h2, h48⟩ := valid_bounds hval
    refine (spec_count _ b o n c cl (by omega) hn _ k0 k1).mono ?_
    rintro e w2 ⟨rfl, rfl⟩
    go_wp2_with fail
    go_ret2
    exact ⟨rfl, B1.out⟩
theorem impl_SegmentsOf (b o n c cu : Nat) (cl : Bool) (P : Nat → Nat) (hn : n ≤ 9223372036854775807) (w : World) (hv : VS w b o n P) :
    Calls Try.prog 23 #[wireV (.slice (some ⟨b, o, none⟩) n c) cl cu] w (IntFlag (segN cl n) (validB P n cu) w) := by
  have HV := Lib.hid hv
  clear hv
  cases hval : validB P n cu
  all_goals
    go_enter Try.func23, Try.ntmps23
    go_wp2_with fail
    refine (impl_ValidWire b o n c cu cl P hn _ (VS.keep (belowAlloc (Below.refl _ _) _) HV.out)).mono ?_
    rw [hval]
    rintro e w1 ⟨rfl, bel⟩
    obtain ⟨k0, k1, k2, _⟩ := newCells bel
    have V1 := Lib.hid (VS.keep bel (VS.keep (belowAlloc (Below.refl _ _) _) HV.out))
    have B1 := Lib.hid (belowNext (belowAlloc (Below.refl w.heap.size w) _) bel)
    clear bel
    go_wp2_with fail
  · go_ret2
    exact ⟨rfl, B1.out⟩
  · obtain ⟨h2, h48⟩ := valid_bounds hval
    refine (impl_segments b o n c cu cl P h2 h48 _ V1.out).mono ?_
    rintro e w2 ⟨g, cap, rfl, hown, bel⟩
    have B2 := Lib.hid (belowNext B1.out bel)
    clear bel hown
    go_wp2_with fail
    go_ret2
    exact ⟨rfl, B2.out⟩
end Go.Proofs.Ytfcniebfoboogaa
