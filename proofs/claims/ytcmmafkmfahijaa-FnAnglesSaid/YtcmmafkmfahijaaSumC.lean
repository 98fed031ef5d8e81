/- Contracts: lists drawn from a source, of any numbers and of small integers. Conditions: as each says. -/
import Derived.Test.YtcmmafkmfahijaaSumP
import Derived.Test.YtcmmafkmfahijaaSrc
import Derived.Deep.AppendLies
namespace Go.Proofs.Ytcmmafkmfahijaa
open Go.RowKit

/-- Numbers as cells. -/
def fltL (L : Nat → Nat) (n : Nat) : List Value := (List.range n).map fun j => .float .f32 (L j)
theorem fltL_length (L : Nat → Nat) (n : Nat) : (fltL L n).length = n := by simp [fltL]
theorem fltL_one (L : Nat → Nat) (n : Nat) : ∀ u ∈ fltL L n, u.oneCell' = true := by
  intro u hu; simp [fltL] at hu; obtain ⟨b, _, rfl⟩ := hu; rfl
theorem fltL_at {L : Nat → Nat} {n j : Nat} (h : j < n) : (fltL L n)[j]? = some (.float .f32 (L j)) := by simp [fltL, List.getElem?_range h]
/-- One more. -/
def putF (L : Nat → Nat) (k x : Nat) (i : Nat) : Nat := if i = k then x else L i
theorem fltL_put (L : Nat → Nat) (k x : Nat) : fltL (putF L k x) (k + 1) = fltL L k ++ [.float .f32 x] := by
  unfold fltL
  rw [List.range_succ, List.map_append, List.map_singleton]
  congr 1
  · exact List.map_congr_left fun j hj => by unfold putF; rw [if_neg (by have := List.mem_range.1 hj; omega)]
  · unfold putF; rw [if_pos rfl]
theorem fltL_succ (L : Nat → Nat) (k : Nat) : fltL L (k + 1) = fltL L k ++ [.float .f32 (L k)] := by simp [fltL, List.range_succ]
theorem FS.owns {w : World} {base g n c : Nat} {L : Nat → Nat} (h : w.ownsRow base 23 1 (.slice (some ⟨g, 0, none⟩) n c) n (fltL L n)) : FS w g 0 n L := fun i hi => by
  have := h.cells (g := g) rfl i _ (fltL_at hi)
  rw [Go.WideShapes.add_plain] at this
  exact this
theorem ownsAside {base B n g c : Nat} {e : TypeId} {xs : List Value} {w w' : World} (h : w.ownsRow base e 1 (.slice (some ⟨g, 0, none⟩) n c) n xs) (ha : Aside B w w') (hB : B < base) : w'.ownsRow base e 1 (.slice (some ⟨g, 0, none⟩) n c) n xs := by
  have hl := (h.lt g rfl).1
  refine h.kept (row := some B) ⟨ha.os, ha.tape, ha.output, ha.size, fun j hj hne => ha.block j hj (fun e => hne (by rw [e]))⟩ (.inr ?_)
  simp [Value.ownBlock]; omega
theorem ownsBelow {B : Nat} {e : TypeId} {k : Nat} {v : Value} {n : Nat} {xs : List Value} {w w' : World} (h : w.ownsRow B e k v n xs) (hb : Below w.heap.size w w') : w'.ownsRow B e k v n xs :=
  h.kept (row := none) ⟨hb.os, hb.tape, hb.output, hb.size, fun j hj _ => hb.block j hj⟩ (by cases hv : v.ownBlock <;> simp)
theorem Aside.grown {B : Nat} {a w1 w2 : World} {row : Option Nat} (h : Aside B a w1) (hg : w1.grownBy w2 row) (hr : ∀ k, row = some k → a.heap.size ≤ k) : Aside B a w2 :=
  ⟨hg.os.trans h.os, hg.tape.trans h.tape, hg.output.trans h.output, Nat.le_trans h.size hg.size, fun k hk hn => (hg.block k (Nat.lt_of_lt_of_le hk h.size) (fun e => by have := hr k e.symm; omega)).trans (h.block k hk hn)⟩
/-- A source stays as it is where another block grows. -/
theorem Src.grown {N B n c k : Nat} {a : Option Addr} {w1 w2 : World} {row : Option Nat} (h : Src N B a n c k w1) (hg : w1.grownBy w2 row) (hr : ∀ k, row = some k → B < k) : Src N B a n c k w2 := by
  have hlt := h.lt
  obtain ⟨h0, h1, h2, p, q, e1, e2, e3, e4, e5, e6, e7⟩ := h
  have hcell : ∀ (b i : Nat) (v : Value), b ≤ B → w1.cell? ⟨b, i, none⟩ = some v → w2.cell? ⟨b, i, none⟩ = some v := fun b i v hb hv =>
    (World.cell?_of_block (w := w1) (hg.block b (World.block_lt_of_cell? w1 ⟨b, i, none⟩ hv) (fun e => by have := hr b e.symm; omega))).trans hv
  have hfr : ∀ i, w2.frozen? ⟨B, i, none⟩ = w1.frozen? ⟨B, i, none⟩ := fun i => World.frozen?_of_block (hg.block B hlt (fun e => by have := hr B e.symm; omega))
  refine ⟨h0, ?_, hcell B 0 _ (Nat.le_refl _) h2, p, q, e1, e2, e3, hcell B 1 _ (Nat.le_refl _) e4, hcell B 2 _ (Nat.le_refl _) e5, (hfr 1).trans e6, (hfr 2).trans e7⟩
  rcases h1 with h | ⟨b, o, r1, r2, r3⟩
  · exact .inl h
  · exact .inr ⟨b, o, r1, r2, fun i hi => (r3 i hi).imp fun v hv => ⟨hv.1, hv.2.1, hcell b _ _ (by omega) hv.2.2⟩⟩
/-- Where a loop that draws a list stands. -/
def DrawAt (w : World) (N B : Nat) (a : Option Addr) (n c k j g cap : Nat) (L : Nat → Nat) (wr : World) : Prop :=
  wr.ownsRow w.heap.size 23 1 (.slice (some ⟨g, 0, none⟩) j cap) j (fltL L j) ∧ Src N B a n c k wr ∧ Aside B w wr
theorem DrawAt.start {w : World} {N B n c k : Nat} {a : Option Addr} (h : Src N B a n c k w) : DrawAt w N B a n c k 0 w.heap.size 0 (fun _ => 0) (w.alloc (.cells #[] 23)) :=
  ⟨World.ownsRow_lit (base := w.heap.size) w #[] 0 (by simp) (by unfold maxLen; omega) rfl, h.alloc _, (Aside.refl B w).alloc _⟩
theorem DrawAt.after {w wr w1 : World} {N B n c k k2 j g cap : Nat} {a : Option Addr} {L : Nat → Nat} (h : DrawAt w N B a n c k j g cap L wr) (hB : B < w.heap.size) (hs : Src N B a n c k2 w1) (ha : Aside B wr w1) : DrawAt w N B a n c k2 j g cap L w1 :=
  ⟨ownsAside h.1 ha hB, hs, h.2.2.trans ha⟩
theorem DrawAt.drewN {w wr : World} {N B n c k j g cap : Nat} {a : Option Addr} {L : Nat → Nat} (h : DrawAt w N B a n c k j g cap L wr) (m : Nat) : DrawAt w N B a n c k j g cap L (wr.drewN m) :=
  ⟨ownsBelow h.1 (below_drewN (Below.refl _ _) m), h.2.1.drewN m, h.2.2.drewN m⟩
theorem DrawAt.next {w wr w2 : World} {N B n c k j g cap g2 cap2 x : Nat} {a : Option Addr} {L : Nat → Nat} (h : DrawAt w N B a n c k j g cap L wr) (hB : B < w.heap.size)
    (hown : w2.ownsRow w.heap.size 23 1 (.slice (some ⟨g2, 0, none⟩) (j + 1) cap2) (j + 1) (fltL L j ++ [.float .f32 x]))
    (hg : (wr.alloc (.cells #[.float .f32 x] 23)).grownBy w2 (Value.slice (some ⟨g, 0, none⟩) j cap).ownBlock) : DrawAt w N B a n c k (j + 1) g2 cap2 (putF L j x) w2 := by
  obtain ⟨ho, hs, ha⟩ := h
  have hr : ∀ q, (Value.slice (some ⟨g, 0, none⟩) j cap).ownBlock = some q → w.heap.size ≤ q := fun q hq => (ho.lt q hq).1
  exact ⟨by rw [fltL_put]; exact hown, (hs.alloc _).grown hg (fun q hq => by have := hr q hq; omega), (ha.alloc _).grown hg hr⟩
set_option maxRecDepth 20000 in
theorem draw_floats (N B : Nat) (a : Option Addr) (n c k m : Nat) (hn : n ≤ 9223372036854775807) (hm : m ≤ 100) (hk : k ≤ 600000) (w : World) (h : Src N B a n c k w) :
    Calls Try.prog 80 #[.pointer (some ⟨B, 0, none⟩), .int .i64 m] w fun e w' => ∃ g cap L, e = .returned (.slice (some ⟨g, 0, none⟩) m cap) ∧ (∀ i, L i < 4294967296) ∧ w'.ownsRow w.heap.size 23 1 (.slice (some ⟨g, 0, none⟩) m cap) m (fltL L m) ∧ Aside B w w' := by
  obtain ⟨i0, hi0, hz0, hz1, hz2⟩ := info_parts infoF
  have hB := h.lt
  have HS := Lib.hid (DrawAt.start h)
  clear h
  go_enter Try.func80, Try.ntmps80
  go_wp2_with fail
  refine (src_one N B a n c k 4 (by omega) (by omega) hn (by omega) _ HS.out.2.1).mono ?_
  rintro e w1 ⟨b, rfl, s1, a1⟩
  have H1 := Lib.hid (HS.out.after hB s1 a1)
  have hs1 := Nat.le_trans HS.out.2.2.size a1.size
  clear s1 a1
  cases b
  · go_wp2_with fail
    go_loopw [1, 5] (fun i v wr => ∃ (j g cap : Nat) (L : Nat → Nat), j ≤ m ∧ i = .int .i64 ((m : Int) - j) ∧ v = .slice (some ⟨g, 0, none⟩) j cap ∧ (∀ i, L i < 4294967296) ∧ DrawAt w N B a n c (k + 2 + 10 * j) j g cap L wr) (fun i _ _ => (RowKit.intOf i).toNat)
    case atStart => exact ⟨0, w.heap.size, 0, fun _ => 0, Nat.zero_le _, by simp, rfl, fun _ => Nat.zero_lt_succ _, H1.out⟩
    case round =>
      obtain ⟨j, g, cap, L, hj, rfl, rfl, hL, H⟩ := hrel
      have HH := Lib.hid H
      have hsz := H.2.2.size
      clear H
      by_cases hlt : j < m
      · have h0 : (0 : Int) < (m : Int) - j := by omega
        go_wp2_with (first
          | (go_at_call 107; refine (draw_plain N B a n c (k + 2 + 10 * j) hn (by omega) _ HH.out.2.1).mono ?_; rintro e w2 ⟨x, rfl, hx, s2, a2⟩; have HB := Lib.hid (HH.out.after hB (Src.mono (show _ ≤ k + 2 + 10 * (j + 1) by omega) s2) a2); have hsz2 := a2.size; clear s2 a2)
          | (at_builtin; refine wpList_append_lies _ rfl _ _ 22 rfl w.heap.size 23 i0 (.float .f32 0) 1 4 Try.underlying22 hi0 hz0 hz1 hz2 rfl (by decide) _ j _ rfl (HB.out.1.alloc _) ⟨w2.heap.size, 0, none⟩ 1 1 [.float .f32 x] rfl rfl ?c1 ?c2 ?c3 ?c4 ?c5 ?c6 (w2.heap.size + 1) ?c7 ?_; rotate_left 7; intro g2 c2 w3 hown3 hgrow hat hlt3; have HX := Lib.hid (HB.out.next hB hown3 hgrow); clear hown3 hgrow hat hlt3))
        case c1 =>
          intro j u hj
          match j, hj with
          | 0, hj => simp at hj; subst hj; simp [Addr.add]
        case c2 => intro u hu; simp at hu; subst hu; rfl
        case c3 => omega
        case c4 => unfold maxLen; omega
        case c5 => omega
        case c6 => simp; omega
        case c7 => simp
        all_goals
          go_roundw
          case rel => exact ⟨j + 1, g2, c2, putF L j x, by omega, by go_num, rfl, fun i => by unfold putF; split; exact hx; exact hL i, HX.out⟩
          case measure => simp [RowKit.intOf]; omega
      · obtain rfl : j = m := by omega
        go_wp2_with fail
        go_ret
        exact ⟨g, cap, L, rfl, hL, HH.out.1, HH.out.2.2⟩
  · go_wp2_with fail
    go_loopw [1, 5] (fun i v wr => ∃ (j g cap : Nat) (L : Nat → Nat), j ≤ m ∧ i = .int .i64 ((m : Int) - j) ∧ v = .slice (some ⟨g, 0, none⟩) j cap ∧ (∀ i, L i < 4294967296) ∧ DrawAt w N B a n c (k + 2 + 10 * j) j g cap L wr) (fun i _ _ => (RowKit.intOf i).toNat)
    case atStart => exact ⟨0, w.heap.size, 0, fun _ => 0, Nat.zero_le _, by simp, rfl, fun _ => Nat.zero_lt_succ _, H1.out⟩
    case round =>
      obtain ⟨j, g, cap, L, hj, rfl, rfl, hL, H⟩ := hrel
      have HH := Lib.hid H
      have hsz := H.2.2.size
      clear H
      by_cases hlt : j < m
      · have h0 : (0 : Int) < (m : Int) - j := by omega
        go_wp2_with (first
          | (go_at_call 70; refine (draw_float N B a n c (k + 2 + 10 * j) hn (by omega) _ HH.out.2.1).mono ?_; rintro e w2 ⟨x, rfl, hx, s2, a2⟩; have HB := Lib.hid (HH.out.after hB (Src.mono (show _ ≤ k + 2 + 10 * (j + 1) by omega) s2) a2); have hsz2 := a2.size; clear s2 a2)
          | (at_builtin; refine wpList_append_lies _ rfl _ _ 22 rfl w.heap.size 23 i0 (.float .f32 0) 1 4 Try.underlying22 hi0 hz0 hz1 hz2 rfl (by decide) _ j _ rfl (HB.out.1.alloc _) ⟨w2.heap.size, 0, none⟩ 1 1 [.float .f32 x] rfl rfl ?c1 ?c2 ?c3 ?c4 ?c5 ?c6 (w2.heap.size + 1) ?c7 ?_; rotate_left 7; intro g2 c2 w3 hown3 hgrow hat hlt3; have HX := Lib.hid (HB.out.next hB hown3 hgrow); clear hown3 hgrow hat hlt3))
        case c1 =>
          intro j u hj
          match j, hj with
          | 0, hj => simp at hj; subst hj; simp [Addr.add]
        case c2 => intro u hu; simp at hu; subst hu; rfl
        case c3 => omega
        case c4 => unfold maxLen; omega
        case c5 => omega
        case c6 => simp; omega
        case c7 => simp
        all_goals
          go_roundw
          case rel => exact ⟨j + 1, g2, c2, putF L j x, by omega, by go_num, rfl, fun i => by unfold putF; split; exact hx; exact hL i, HX.out⟩
          case measure => simp [RowKit.intOf]; omega
      · obtain rfl : j = m := by omega
        go_wp2_with fail
        go_ret
        exact ⟨g, cap, L, rfl, hL, HH.out.1, HH.out.2.2⟩
theorem any_numbers (a : Option Addr) (n c m : Nat) (hn : n ≤ 9223372036854775807) (hm : m ≤ 100) (w : World) (h : Bytes w.heap.size a n w) :
    Calls Try.prog 39 #[.slice a n c, .int .i64 m] w fun e w' => ∃ g cap L, e = .returned (.slice (some ⟨g, 0, none⟩) m cap) ∧ (∀ i, L i < 4294967296) ∧ w'.ownsRow w.heap.size 23 1 (.slice (some ⟨g, 0, none⟩) m cap) m (fltL L m) ∧ Below w.heap.size w w' := by
  have HS := Lib.hid (Src.new (c := c) (t := 86) h)
  have HA := Lib.hid (belowAlloc (Below.refl w.heap.size w) (.cells #[.slice a n c, .int .i64 0, .int .u64 0] 86))
  clear h
  go_enter Try.func39, Try.ntmps39
  go_wp2_with (go_at_call 66; go_in)
  refine (draw_floats w.heap.size w.heap.size a n c 0 m hn hm (by omega) _ HS.out).mono ?_
  rintro e w1 ⟨g, cap, L, rfl, hL, ho, a1⟩
  have H1 := Lib.hid (And.intro (Go.Joins.ownsRow_le ho (show w.heap.size ≤ _ by simp)) (a1.below HA.out (Nat.le_refl _) HA.out.size))
  clear ho a1
  go_wp2_with fail
  go_ret
  exact ⟨g, cap, L, rfl, hL, H1.out.1, H1.out.2⟩
theorem src_from (a : Option Addr) (n c : Nat) (w : World) : Calls Try.prog 66 #[.slice a n c] w fun e w' => e = .returned (.pointer (some ⟨w.heap.size, 0, none⟩)) ∧ w' = w.alloc (.cells #[.slice a n c, .int .i64 0, .int .u64 0] 86) := by
  go_enter Try.func66, Try.ntmps66
  go_wp2_with fail
  go_ret
  exact ⟨rfl, rfl⟩
/-- One more integer. -/
def putZ (z : Nat → Int) (k : Nat) (x : Int) (i : Nat) : Int := if i = k then x else z i
theorem wordsOf_put (z : Nat → Int) (k : Nat) (x : Int) : wordsOf (putZ z k x) = putF (wordsOf z) k (K Ieee.single x) := by
  funext i
  unfold wordsOf putZ putF
  split <;> rfl
set_option maxRecDepth 20000 in
theorem any_whole (a : Option Addr) (n c m : Nat) (hn : n ≤ 9223372036854775807) (hm : m ≤ 100) (w : World) (h : Bytes w.heap.size a n w) :
    Calls Try.prog 40 #[.slice a n c, .int .i64 m, .int .i64 100] w fun e w' => ∃ g cap z, e = .returned (.slice (some ⟨g, 0, none⟩) m cap) ∧ (∀ i, (z i).natAbs ≤ 100) ∧ w'.ownsRow w.heap.size 23 1 (.slice (some ⟨g, 0, none⟩) m cap) m (fltL (wordsOf z) m) ∧ Below w.heap.size w w' := by
  obtain ⟨i0, hi0, hz0, hz1, hz2⟩ := info_parts infoF
  have HS0 := Src.new (c := c) (t := 86) h
  have HA := Lib.hid (belowAlloc (Below.refl w.heap.size w) (.cells #[.slice a n c, .int .i64 0, .int .u64 0] 86))
  obtain ⟨W1, hW1⟩ : ∃ W1, W1 = w.alloc (.cells #[.slice a n c, .int .i64 0, .int .u64 0] 86) := ⟨_, rfl⟩
  have hsz1 : W1.heap.size = w.heap.size + 1 := by rw [hW1]; simp
  rw [← hW1] at HS0 HA
  have hB : w.heap.size < W1.heap.size := by omega
  have HS := Lib.hid (DrawAt.start HS0)
  have HW := Lib.hid hW1
  have hz : wordsOf (fun _ => 0) = fun _ => 0 := by funext i; exact K_zero _
  rw [← hz] at HS
  clear h HS0 hz hW1
  go_enter Try.func40, Try.ntmps40
  go_wp2_with (go_at_call 66; refine (src_from _ _ _ _).mono ?_; rintro e w' ⟨rfl, rfl⟩; rw [← HW.out])
  go_loopw [1, 8] (fun i v wr => ∃ (j g cap : Nat) (z : Nat → Int), j ≤ m ∧ i = .int .i64 ((m : Int) - j) ∧ v = .slice (some ⟨g, 0, none⟩) j cap ∧ (∀ i, (z i).natAbs ≤ 100) ∧ DrawAt W1 w.heap.size w.heap.size a n c (2 * j) j g cap (wordsOf z) wr) (fun i _ _ => (RowKit.intOf i).toNat)
  case atStart => exact ⟨0, W1.heap.size, 0, fun _ => 0, Nat.zero_le _, by simp, by simp [hsz1], fun _ => Nat.zero_le _, HS.out⟩
  case round =>
    obtain ⟨j, g, cap, z, hj, rfl, rfl, hL, H⟩ := hrel
    have HH := Lib.hid H
    have hsz := H.2.2.size
    clear H
    by_cases hlt : j < m
    · have h0 : (0 : Int) < (m : Int) - j := by omega
      go_wp2_with (first
        | (go_at_call 68; refine (src_pick w.heap.size w.heap.size a n c (2 * j) 201 (by omega) (by omega) hn (by omega) _ HH.out.2.1).mono ?_; rintro e w2 ⟨x, rfl, ⟨hx0, hx1⟩, s2, a2⟩; have HB := Lib.hid (HH.out.after hB (Src.mono (show _ ≤ 2 * (j + 1) by omega) s2) a2); have hsz2 := a2.size; clear s2 a2)
        | (at_builtin; refine wpList_append_lies _ rfl _ _ 22 rfl W1.heap.size 23 i0 (.float .f32 0) 1 4 Try.underlying22 hi0 hz0 hz1 hz2 rfl (by decide) _ j _ rfl (HB.out.1.alloc _) ⟨w2.heap.size, 0, none⟩ 1 1 [.float .f32 (K Ieee.single (x - 100))] rfl rfl ?c1 ?c2 ?c3 ?c4 ?c5 ?c6 (w2.heap.size + 1) ?c7 ?_; rotate_left 7; intro g2 c2 w3 hown3 hgrow hat hlt3; have HX := Lib.hid (HB.out.next hB hown3 hgrow); clear hown3 hgrow hat hlt3))
      case c1 =>
        intro j u hj
        match j, hj with
        | 0, hj => simp at hj; subst hj; simp [Addr.add, ofInt32]
      case c2 => intro u hu; simp at hu; subst hu; rfl
      case c3 => omega
      case c4 => unfold maxLen; omega
      case c5 => omega
      case c6 => simp; omega
      case c7 => simp
      all_goals
        go_roundw
        case rel => exact ⟨j + 1, g2, c2, putZ z j (x - 100), by omega, by go_num, rfl, fun i => by unfold putZ; split; omega; exact hL i, by rw [wordsOf_put]; exact HX.out⟩
        case measure => simp [RowKit.intOf]; omega
    · obtain rfl : j = m := by omega
      go_wp2_with fail
      go_ret
      exact ⟨g, cap, z, rfl, hL, Go.Joins.ownsRow_le HH.out.1 (by omega), HH.out.2.2.below HA.out (Nat.le_refl _) HA.out.size⟩
theorem impl_DotWide (b1 o1 c1 b2 o2 c2 n : Nat) (L M : Nat → Nat) (hn : n ≤ 256) (w : World) (h1 : FS w b1 o1 n L) (h2 : FS w b2 o2 n M) :
    Calls Try.prog 41 #[.slice (some ⟨b1, o1, none⟩) n c1, .slice (some ⟨b2, o2, none⟩) n c2] w fun e w' => ∃ u r m, e = .returned (.tuple #[.float .f32 r, .bool true]) ∧ Same .f64 u (dotD L M n) ∧ Narrow u r ∧ w' = w.drewN m := by
  have h' : decide (256 < (n : Int)) = false := decide_eq_false (by omega)
  go_enter Try.func41, Try.ntmps41
  go_wp2_with fail
  clear h'
  go_loopw [6, 20] (fun s i wr => ∃ k r m : Nat, k ≤ n ∧ i = .int .i64 k ∧ s = .float .f64 r ∧ Same .f64 r (dotD L M k) ∧ wr = w.drewN m) (fun _ i _ => n - (RowKit.intOf i).toNat)
  case atStart => exact ⟨0, 0, 0, Nat.zero_le _, rfl, rfl, Same.refl _ _, rfl⟩
  case round =>
    obtain ⟨k, r, m, hk, rfl, rfl, hr, rfl⟩ := hrel
    by_cases hlt : k < n
    · have a1 : w.cell? ⟨b1, o1 + k, none⟩ = some (.float .f32 (L k)) := h1 k hlt
      have a2 : w.cell? ⟨b2, o2 + k, none⟩ = some (.float .f32 (M k)) := h2 k hlt
      have p0 : (0 : Int) ≤ (k : Int) := by omega
      have p1 : (k : Int) < (n : Int) := by omega
      go_wp2_with fail
      go_region_with (fail)
      all_goals
        go_wp2_with fail
        go_roundw
        case rel => exact ⟨k + 1, _, _, by omega, by go_num, rfl, fval_same .add _ hr (fval_same .mul _ (cval_wide _ (Same.refl _ _)) (cval_wide _ (Same.refl _ _))), rfl⟩
        case measure => simp [RowKit.intOf]; omega
    · obtain rfl : k = n := by omega
      go_wp2_with (refine wpList_narrow some64 Try.underlying23 rfl rfl rfl ?_; intro _ _ _)
      go_ret2
      exact ⟨r, _, _, rfl, hr, by assumption, rfl⟩
theorem impl_SumPairs_at (b o n c : Nat) (L : Nat → Nat) (hn : n ≤ 256) (hnc : n ≤ c) (hcm : c ≤ 9223372036854775807) (w : World) (hc : ∀ i, o ≤ i → i < o + n → w.cell? ⟨b, i, none⟩ = some (.float .f32 (L i))) :
    Calls Try.prog 22 #[.slice (some ⟨b, o, none⟩) n c] w fun e w' => ∃ r m, e = .returned (.tuple #[.float .f32 r, .bool true]) ∧ Same .f32 r (pairF L n o n) ∧ w' = w.drewN m := by
  have h' : decide (256 < (n : Int)) = false := decide_eq_false (by omega)
  go_enter Try.func22, Try.ntmps22
  go_wp2_with (go_at_call 61; refine (impl_pairs b L n o n c _ (Nat.le_refl _) (by omega) hnc hcm hc).mono ?_; rintro e w' ⟨r, m, rfl, hr, rfl⟩)
  go_ret2
  exact ⟨r, m, rfl, hr, rfl⟩
end Go.Proofs.Ytcmmafkmfahijaa
