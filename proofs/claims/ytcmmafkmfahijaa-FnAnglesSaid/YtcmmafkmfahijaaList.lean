/- Lists of 32-bit numbers: the laws' copies and comparisons, sums, products. Conditions: as each says. -/
import Derived.Test.YtcmmafkmfahijaaVec
import Derived.Test.YtcmmafkmfahijaaOpen
import Derived.LoopTactic
import Derived.Deep.OwnRows
import Derived.Deep.Slices
import Derived.Deep.RegionWith
import Derived.Deep.DrawnRows
namespace Go.Proofs.Ytcmmafkmfahijaa
open Go.RowKit
attribute [local go_sem ↓] Go.wp_at_zero Go.wp_at_succ

/-- The numbers that lie in a block from an offset on. -/
def FS (w : World) (b o n : Nat) (L : Nat → Nat) : Prop := ∀ i, i < n → w.cell? ⟨b, o + i, none⟩ = some (.float .f32 (L i))
theorem infoF : (Try.prog.info? 23).map (fun i => (i.zero, i.size, i.bytes)) = some (some (.float .f32 0), 1, 4) := by kernel_rfl
theorem FS.row {w : World} {b n : Nat} {E : TypeId} {L : Nat → Nat} (h : w.rowIs b E n (fun i => .float .f32 (L i))) : FS w b 0 n L := fun i hi => by rw [Nat.zero_add]; exact h.cell hi

theorem laws_toF (b o n c : Nat) (L : Nat → Nat) (hn : n ≤ 1048576) (w : World) (hc : FS w b o n L) (hb : b < w.heap.size) :
    Calls Try.prog 15 #[.slice (some ⟨b, o, none⟩) n c] w fun e w' => e = .returned (.slice (some ⟨w.heap.size, 0, none⟩) n n) ∧ w'.rowIs w.heap.size 23 n (fun i => .float .f32 (L i)) ∧ Below w.heap.size w w' := by
  have hmk := run_make_row' (P := Try.prog) 22 23 (.float .f32 0) 4 Try.underlying22 infoF rfl .i64 .i64 n (by omega) (by omega)
  go_enter Try.func15, Try.ntmps15
  go_wp2_with fail
  clear hmk
  go_loopw [4] (fun i wr => ∃ k : Nat, k ≤ n ∧ i = .int .i64 k ∧ wr.rowIs w.heap.size 23 n (fun j => if j < k then .float .f32 (L j) else .float .f32 0) ∧ Below w.heap.size w wr) (fun i _ => n - (intOf i).toNat)
  case atStart => exact ⟨0, Nat.zero_le _, rfl, (World.rowIs_made _ _ _ _).congr (fun i _ => by simp), (Below.refl _ _).alloc (Nat.le_refl _) _⟩
  case round =>
    obtain ⟨k, hk, rfl, hrow, hbel⟩ := hrel
    by_cases hlt : k < n
    · have h1 : wr.cell? ⟨b, o + k, none⟩ = some (.float .f32 (L k)) := (hbel.cell (p := ⟨b, o + k, none⟩) hb).trans (hc k hlt)
      have h2 := hrow.cell hlt
      have h3 := hrow.frozen k
      have H := Lib.hid (And.intro hrow hbel)
      clear hrow hbel
      go_wp2_with fail
      go_roundw
      case rel =>
        obtain ⟨hrow, hbel⟩ := H.out
        refine ⟨k + 1, by omega, by go_num, (hrow.set k _).congr ?_, hbel.setCell (Nat.le_refl _) _⟩
        intro j hj
        by_cases e : j = k
        · subst e; simp
        · by_cases l : j < k
          · rw [if_neg e, if_pos l, if_pos (by omega)]
          · rw [if_neg e, if_neg l, if_neg (by omega)]
      case measure => simp [intOf]; omega
    · obtain rfl : k = n := by omega
      have H := Lib.hid (And.intro hrow hbel)
      clear hrow hbel
      go_wp2_with fail
      go_ret
      obtain ⟨hrow, hbel⟩ := H.out
      exact ⟨rfl, hrow.congr (fun j hj => by rw [if_pos hj]), hbel⟩
theorem laws_toF_nil (a : Option Addr) (c : Nat) (w : World) :
    Calls Try.prog 15 #[.slice a 0 c] w fun e w' => e = .returned (.slice (some ⟨w.heap.size, 0, none⟩) 0 0) ∧ w'.rowIs w.heap.size 23 0 (fun _ => .float .f32 0) ∧ Below w.heap.size w w' := by
  have hmk : ∀ w : World, (Instr.makeSlice 22 (.int .i64 0) (.int .i64 0)).run Try.prog w = .ok (.slice (some ⟨w.heap.size, 0, none⟩) 0 0) (w.alloc (.cells (madeCells #[.float .f32 0] 0) 23)) := run_make_row' (P := Try.prog) 22 23 (.float .f32 0) 4 Try.underlying22 infoF rfl .i64 .i64 0 (by omega) (by omega)
  go_enter Try.func15, Try.ntmps15
  go_wp2_with fail
  clear hmk
  go_loopw [4] (fun i wr => i = .int .i64 0 ∧ wr.rowIs w.heap.size 23 0 (fun _ => .float .f32 0) ∧ Below w.heap.size w wr) (fun _ _ => 0)
  case atStart => exact ⟨rfl, World.rowIs_made _ _ _ _, (Below.refl _ _).alloc (Nat.le_refl _) _⟩
  case round =>
    obtain ⟨rfl, hrow, hbel⟩ := hrel
    have H := Lib.hid (And.intro hrow hbel)
    clear hrow hbel
    go_wp2_with fail
    go_ret
    obtain ⟨hrow, hbel⟩ := H.out
    exact ⟨rfl, hrow, hbel⟩

set_option maxRecDepth 100000 in
/-- Two lists of the same numbers. -/
theorem laws_eqF (b1 o1 c1 b2 o2 c2 n : Nat) (L M K : Nat → Nat) (hn : n ≤ 1048576) (w : World) (h1 : FS w b1 o1 n L) (h2 : FS w b2 o2 n M) (hs : ∀ i, i < n → Same .f32 (L i) (K i) ∧ Same .f32 (M i) (K i)) :
    Calls Try.prog 18 #[.slice (some ⟨b1, o1, none⟩) n c1, .slice (some ⟨b2, o2, none⟩) n c2] w fun e w' => e = .returned (.bool true) ∧ ∃ m, w' = w.drewN m := by
  go_enter Try.func18, Try.ntmps18
  go_wp2_with fail
  go_loopw [5] (fun i wr => ∃ k m : Nat, k ≤ n ∧ i = .int .i64 k ∧ wr = w.drewN m) (fun i _ => n - (intOf i).toNat)
  case atStart => exact ⟨0, 0, Nat.zero_le _, rfl, rfl⟩
  case round =>
    obtain ⟨k, m, hk, rfl, rfl⟩ := hrel
    by_cases hlt : k < n
    · have a1 : w.cell? ⟨b1, o1 + k, none⟩ = some (.float .f32 (L k)) := h1 k hlt
      have a2 : w.cell? ⟨b2, o2 + k, none⟩ = some (.float .f32 (M k)) := h2 k hlt
      obtain ⟨s1, s2⟩ := hs k hlt
      have p0 : (0 : Int) ≤ (k : Int) := by omega
      have p1 : (k : Int) < (n : Int) := by omega
      go_wp2_with fail
      go_region_with ((go_at_call 17; refine (sameFloat_of (cval_wide _ (Same.refl _ _)) (cval_wide _ (Same.refl _ _)) s1 s2 _).mono ?_; rintro e w' ⟨rfl, m3, rfl⟩))
      all_goals
        go_wp2_with fail
        go_roundw
        case rel => exact ⟨k + 1, _, by omega, by go_num, rfl⟩
        case measure => simp [intOf]; omega
    · obtain rfl : k = n := by omega
      go_wp2_with fail
      go_ret
      exact ⟨rfl, _, rfl⟩

def sumF (L : Nat → Nat) : Nat → Nat
  | 0 => 0
  | k + 1 => ad (sumF L k) (L k)
theorem spec_sum (b o n c : Nat) (L : Nat → Nat) (hn : n ≤ 1048576) (w : World) (hc : FS w b o n L) :
    Calls Try.prog 58 #[.slice (some ⟨b, o, none⟩) n c] w fun e w' => ∃ r m, e = .returned (.float .f32 r) ∧ Same .f32 r (sumF L n) ∧ w' = w.drewN m := by
  go_enter Try.func58, Try.ntmps58
  go_wp2_with fail
  go_loopw [3, 4] (fun s i wr => ∃ k r m : Nat, k ≤ n ∧ i = .int .i64 k ∧ s = .float .f32 r ∧ Same .f32 r (sumF L k) ∧ wr = w.drewN m) (fun _ i _ => n - (intOf i).toNat)
  case atStart => exact ⟨0, 0, 0, Nat.zero_le _, rfl, rfl, Same.refl _ _, rfl⟩
  case round =>
    obtain ⟨k, r, m, hk, rfl, rfl, hr, rfl⟩ := hrel
    by_cases hlt : k < n
    · have a1 : w.cell? ⟨b, o + k, none⟩ = some (.float .f32 (L k)) := hc k hlt
      go_wp2_with (refine wpList_fop rfl rfl rfl rfl rfl ?_; intro r2 m2 h2)
      go_roundw
      case rel => exact ⟨k + 1, _, _, by omega, by go_num, rfl, h2.step hr (Same.refl _ _), rfl⟩
      case measure => simp [intOf]; omega
    · obtain rfl : k = n := by omega
      go_wp2_with fail
      go_ret
      exact ⟨_, _, rfl, hr, rfl⟩
theorem impl_sum (b o n c : Nat) (L : Nat → Nat) (hn : n ≤ 1048576) (w : World) (hc : FS w b o n L) :
    Calls Try.prog 59 #[.slice (some ⟨b, o, none⟩) n c] w fun e w' => ∃ r m, e = .returned (.float .f32 r) ∧ Same .f32 r (sumF L n) ∧ w' = w.drewN m := by
  go_enter Try.func59, Try.ntmps59
  go_wp2_with fail
  go_loopw [3, 8] (fun s i wr => ∃ k r m : Nat, k ≤ n ∧ i = .int .i64 k ∧ s = .float .f32 r ∧ Same .f32 r (sumF L k) ∧ wr = w.drewN m) (fun _ i _ => n - (intOf i).toNat)
  case atStart => exact ⟨0, 0, 0, Nat.zero_le _, rfl, rfl, Same.refl _ _, rfl⟩
  case round =>
    obtain ⟨k, r, m, hk, rfl, rfl, hr, rfl⟩ := hrel
    by_cases hlt : k < n
    · have a1 : w.cell? ⟨b, o + k, none⟩ = some (.float .f32 (L k)) := hc k hlt
      go_wp2_with (refine wpList_fop rfl rfl rfl rfl rfl ?_; intro r2 m2 h2)
      go_roundw
      case rel => exact ⟨k + 1, _, _, by omega, by go_num, rfl, h2.step hr (Same.refl _ _), rfl⟩
      case measure => simp [intOf]; omega
    · obtain rfl : k = n := by omega
      go_wp2_with fail
      go_ret
      exact ⟨_, _, rfl, hr, rfl⟩
def dotF (L M : Nat → Nat) : Nat → Nat
  | 0 => 0
  | k + 1 => ad (dotF L M k) (mu (L k) (M k))
theorem spec_dot (b1 o1 c1 b2 o2 c2 n : Nat) (L M : Nat → Nat) (hn : n ≤ 1048576) (w : World) (h1 : FS w b1 o1 n L) (h2 : FS w b2 o2 n M) :
    Calls Try.prog 56 #[.slice (some ⟨b1, o1, none⟩) n c1, .slice (some ⟨b2, o2, none⟩) n c2] w fun e w' => ∃ r m, e = .returned (.float .f32 r) ∧ Same .f32 r (dotF L M n) ∧ w' = w.drewN m := by
  go_enter Try.func56, Try.ntmps56
  go_wp2_with fail
  go_loopw [5, 6] (fun s i wr => ∃ k r m : Nat, k ≤ n ∧ i = .int .i64 k ∧ s = .float .f32 r ∧ Same .f32 r (dotF L M k) ∧ wr = w.drewN m) (fun _ i _ => n - (intOf i).toNat)
  case atStart => exact ⟨0, 0, 0, Nat.zero_le _, rfl, rfl, Same.refl _ _, rfl⟩
  case round =>
    obtain ⟨k, r, m, hk, rfl, rfl, hr, rfl⟩ := hrel
    by_cases hlt : k < n
    · have a1 : w.cell? ⟨b1, o1 + k, none⟩ = some (.float .f32 (L k)) := h1 k hlt
      have a2 : w.cell? ⟨b2, o2 + k, none⟩ = some (.float .f32 (M k)) := h2 k hlt
      have p0 : (0 : Int) ≤ (k : Int) := by omega
      have p1 : (k : Int) < (n : Int) := by omega
      go_wp2_with fail
      go_region_with (fail)
      all_goals
        go_wp2_with fail
        go_roundw
        case rel => exact ⟨k + 1, _, _, by omega, by go_num, rfl, fval_same .add _ hr (fval_same .mul _ (Same.refl _ _) (Same.refl _ _)), rfl⟩
        case measure => simp [intOf]; omega
    · obtain rfl : k = n := by omega
      go_wp2_with fail
      go_ret
      exact ⟨_, _, rfl, hr, rfl⟩
theorem impl_dot (b1 o1 c1 b2 o2 c2 n : Nat) (L M : Nat → Nat) (hn : n ≤ 1048576) (w : World) (h1 : FS w b1 o1 n L) (h2 : FS w b2 o2 n M) :
    Calls Try.prog 57 #[.slice (some ⟨b1, o1, none⟩) n c1, .slice (some ⟨b2, o2, none⟩) n c2] w fun e w' => ∃ r m, e = .returned (.float .f32 r) ∧ Same .f32 r (dotF L M n) ∧ w' = w.drewN m := by
  go_enter Try.func57, Try.ntmps57
  go_wp2_with fail
  go_loopw [5, 9] (fun s i wr => ∃ k r m : Nat, k ≤ n ∧ i = .int .i64 k ∧ s = .float .f32 r ∧ Same .f32 r (dotF L M k) ∧ wr = w.drewN m) (fun _ i _ => n - (intOf i).toNat)
  case atStart => exact ⟨0, 0, 0, Nat.zero_le _, rfl, rfl, Same.refl _ _, rfl⟩
  case round =>
    obtain ⟨k, r, m, hk, rfl, rfl, hr, rfl⟩ := hrel
    by_cases hlt : k < n
    · have a1 : w.cell? ⟨b1, o1 + k, none⟩ = some (.float .f32 (L k)) := h1 k hlt
      have a2 : w.cell? ⟨b2, o2 + k, none⟩ = some (.float .f32 (M k)) := h2 k hlt
      have p0 : (0 : Int) ≤ (k : Int) := by omega
      have p1 : (k : Int) < (n : Int) := by omega
      go_wp2_with fail
      go_region_with (fail)
      all_goals
        go_wp2_with fail
        go_roundw
        case rel => exact ⟨k + 1, _, _, by omega, by go_num, rfl, fval_same .add _ hr (fval_same .mul _ (Same.refl _ _) (Same.refl _ _)), rfl⟩
        case measure => simp [intOf]; omega
    · obtain rfl : k = n := by omega
      go_wp2_with fail
      go_ret
      exact ⟨_, _, rfl, hr, rfl⟩

/-- The sum of both halves, of at most f numbers. -/
def pairF (L : Nat → Nat) : Nat → Nat → Nat → Nat
  | 0, _, _ => 0
  | f + 1, o, n => if n = 0 then 0 else if n = 1 then L o else ad (pairF L f o ((n + 1) / 2)) (pairF L f (o + (n + 1) / 2) (n - (n + 1) / 2))
/-- The cells are as they were. -/
def CellsAs (w w' : World) : Prop := ∀ a, w'.cell? a = w.cell? a
theorem CellsAs.refl (w : World) : CellsAs w w := fun _ => rfl
theorem CellsAs.drewN {w w' : World} (h : CellsAs w w') (n : Nat) : CellsAs w (w'.drewN n) := h
set_option maxRecDepth 100000 in
set_option maxHeartbeats 1000000 in
theorem spec_pairs (b : Nat) (L : Nat → Nat) : ∀ (f o n c : Nat) (w : World), n ≤ f → n ≤ 1048576 → n ≤ c → c ≤ 9223372036854775807 → (∀ i, o ≤ i → i < o + n → w.cell? ⟨b, i, none⟩ = some (.float .f32 (L i))) →
    Calls Try.prog 60 #[.slice (some ⟨b, o, none⟩) n c] w fun e w' => ∃ r m, e = .returned (.float .f32 r) ∧ Same .f32 r (pairF L f o n) ∧ w' = w.drewN m := by
  intro f
  induction f with
  | zero =>
    intro o n c w hf hn hnc hcm hc
    obtain rfl : n = 0 := by omega
    go_enter Try.func60, Try.ntmps60
    go_wp2_with fail
    go_ret
    exact ⟨_, 0, rfl, Same.refl _ _, rfl⟩
  | succ f ih =>
    intro o n c w hf hn hnc hcm hc
    by_cases h0 : n = 0
    · subst h0
      have e : pairF L (f + 1) o 0 = 0 := rfl
      rw [e]
      go_enter Try.func60, Try.ntmps60
      go_wp2_with fail
      go_ret
      exact ⟨_, 0, rfl, Same.refl _ _, rfl⟩
    · by_cases h1 : n = 1
      · subst h1
        have e : pairF L (f + 1) o 1 = L o := rfl
        rw [e]
        have a1 := hc o (by omega) (by omega)
        clear ih hc
        go_enter Try.func60, Try.ntmps60
        go_wp2_with fail
        go_ret
        exact ⟨_, 0, rfl, Same.refl _ _, rfl⟩
      · have e : pairF L (f + 1) o n = ad (pairF L f o ((n + 1) / 2)) (pairF L f (o + (n + 1) / 2) (n - (n + 1) / 2)) := by
          conv => lhs; unfold pairF
          rw [if_neg h0, if_neg h1]
        rw [e]
        clear e
        obtain ⟨h, hh⟩ : ∃ h, h = (n + 1) / 2 := ⟨_, rfl⟩
        rw [← hh]
        have q1 : 1 ≤ h := by omega
        have q2 : h < n := by omega
        have qn : 2 ≤ n := by omega
        have ih1 : ∀ w2 : World, CellsAs w w2 → _ := fun w2 hw2 => ih o h c w2 (by omega) (by omega) (by omega) hcm (fun i a1 a2 => by rw [hw2]; exact hc i a1 (by omega))
        have ih2 : ∀ w2 : World, CellsAs w w2 → _ := fun w2 hw2 => ih (o + h) (n - h) (c - h) w2 (by omega) (by omega) (by omega) (by omega) (fun i a1 a2 => by rw [hw2]; exact hc i (by omega) (by omega))
        clear ih hc
        have hq : ((n : Int) + 1) / 2 = (h : Int) := by omega
        have HQ := Lib.hid hh
        clear hh
        go_enter Try.func60, Try.ntmps60
        go_wp2_with fail
        rw [hq]
        clear hq
        go_region_with ((go_at_call 60; first | ((with_reducible refine (ih1 _ ?_).mono ?_); exact (fun _ => rfl); rintro e w' ⟨r, m, rfl, hr, rfl⟩) | ((with_reducible refine (ih2 _ ?_).mono ?_); exact (fun _ => rfl); rintro e w' ⟨r, m, rfl, hr, rfl⟩)))
        all_goals
          go_wp2_with fail
          go_ret
          exact ⟨_, _, rfl, fval_same .add _ (by assumption) (by assumption), rfl⟩
set_option maxRecDepth 100000 in
set_option maxHeartbeats 1000000 in
theorem impl_pairs (b : Nat) (L : Nat → Nat) : ∀ (f o n c : Nat) (w : World), n ≤ f → n ≤ 1048576 → n ≤ c → c ≤ 9223372036854775807 → (∀ i, o ≤ i → i < o + n → w.cell? ⟨b, i, none⟩ = some (.float .f32 (L i))) →
    Calls Try.prog 61 #[.slice (some ⟨b, o, none⟩) n c] w fun e w' => ∃ r m, e = .returned (.float .f32 r) ∧ Same .f32 r (pairF L f o n) ∧ w' = w.drewN m := by
  intro f
  induction f with
  | zero =>
    intro o n c w hf hn hnc hcm hc
    obtain rfl : n = 0 := by omega
    go_enter Try.func61, Try.ntmps61
    go_wp2_with fail
    go_ret
    exact ⟨_, 0, rfl, Same.refl _ _, rfl⟩
  | succ f ih =>
    intro o n c w hf hn hnc hcm hc
    by_cases h0 : n = 0
    · subst h0
      have e : pairF L (f + 1) o 0 = 0 := rfl
      rw [e]
      go_enter Try.func61, Try.ntmps61
      go_wp2_with fail
      go_ret
      exact ⟨_, 0, rfl, Same.refl _ _, rfl⟩
    · by_cases h1 : n = 1
      · subst h1
        have e : pairF L (f + 1) o 1 = L o := rfl
        rw [e]
        have a1 := hc o (by omega) (by omega)
        clear ih hc
        go_enter Try.func61, Try.ntmps61
        go_wp2_with fail
        go_ret
        exact ⟨_, 0, rfl, Same.refl _ _, rfl⟩
      · have e : pairF L (f + 1) o n = ad (pairF L f o ((n + 1) / 2)) (pairF L f (o + (n + 1) / 2) (n - (n + 1) / 2)) := by
          conv => lhs; unfold pairF
          rw [if_neg h0, if_neg h1]
        rw [e]
        clear e
        obtain ⟨h, hh⟩ : ∃ h, h = (n + 1) / 2 := ⟨_, rfl⟩
        rw [← hh]
        have q1 : 1 ≤ h := by omega
        have q2 : h < n := by omega
        have qn : 2 ≤ n := by omega
        have ih1 : ∀ w2 : World, CellsAs w w2 → _ := fun w2 hw2 => ih o h c w2 (by omega) (by omega) (by omega) hcm (fun i a1 a2 => by rw [hw2]; exact hc i a1 (by omega))
        have ih2 : ∀ w2 : World, CellsAs w w2 → _ := fun w2 hw2 => ih (o + h) (n - h) (c - h) w2 (by omega) (by omega) (by omega) (by omega) (fun i a1 a2 => by rw [hw2]; exact hc i (by omega) (by omega))
        clear ih hc
        have hq : ((n : Int) + 1) / 2 = (h : Int) := by omega
        have HQ := Lib.hid hh
        clear hh
        go_enter Try.func61, Try.ntmps61
        go_wp2_with fail
        rw [hq]
        clear hq
        go_region_with ((go_at_call 61; first | ((with_reducible refine (ih1 _ ?_).mono ?_); exact (fun _ => rfl); rintro e w' ⟨r, m, rfl, hr, rfl⟩) | ((with_reducible refine (ih2 _ ?_).mono ?_); exact (fun _ => rfl); rintro e w' ⟨r, m, rfl, hr, rfl⟩)))
        all_goals
          go_wp2_with fail
          go_ret
          exact ⟨_, _, rfl, fval_same .add _ (by assumption) (by assumption), rfl⟩

def NumFlag (X : Nat) (b : Bool) (w : World) (e : Ending) (w' : World) : Prop := ∃ r m, e = .returned (.tuple #[.float .f32 r, .bool b]) ∧ Same .f32 r X ∧ w' = w.drewN m
theorem spec_SumNumbers (b o n c : Nat) (L : Nat → Nat) (hn : n ≤ 1048576) (w : World) (hc : FS w b o n L) :
    Calls Try.prog 19 #[.slice (some ⟨b, o, none⟩) n c] w (NumFlag (if n ≤ 256 then sumF L n else 0) (decide (n ≤ 256)) w) := by
  by_cases h : n ≤ 256
  · rw [if_pos h, decide_eq_true h]
    have h' : decide ((n : Int) ≤ 256) = true := decide_eq_true (by omega)
    go_enter Try.func19, Try.ntmps19
    go_wp2_with (first | (go_at_call 55; go_in) | (go_at_call 58; refine (spec_sum _ _ _ _ _ hn _ hc).mono ?_; rintro e w' ⟨r, m, rfl, hr, rfl⟩))
    go_ret2
    exact ⟨_, _, rfl, hr, rfl⟩
  · rw [if_neg h, decide_eq_false h]
    have h' : decide ((n : Int) ≤ 256) = false := decide_eq_false (by omega)
    go_enter Try.func19, Try.ntmps19
    go_wp2_with (first | (go_at_call 55; go_in))
    go_ret2
    exact ⟨_, 0, rfl, Same.refl _ _, rfl⟩
theorem impl_SumNumbers (b o n c : Nat) (L : Nat → Nat) (hn : n ≤ 1048576) (w : World) (hc : FS w b o n L) :
    Calls Try.prog 20 #[.slice (some ⟨b, o, none⟩) n c] w (NumFlag (if n ≤ 256 then sumF L n else 0) (decide (n ≤ 256)) w) := by
  by_cases h : n ≤ 256
  · rw [if_pos h, decide_eq_true h]
    have h' : decide (256 < (n : Int)) = false := decide_eq_false (by omega)
    go_enter Try.func20, Try.ntmps20
    go_wp2_with (first | (go_at_call 59; refine (impl_sum _ _ _ _ _ hn _ hc).mono ?_; rintro e w' ⟨r, m, rfl, hr, rfl⟩))
    go_ret2
    exact ⟨_, _, rfl, hr, rfl⟩
  · rw [if_neg h, decide_eq_false h]
    have h' : decide (256 < (n : Int)) = true := decide_eq_true (by omega)
    go_enter Try.func20, Try.ntmps20
    go_wp2_with fail
    go_ret2
    exact ⟨_, 0, rfl, Same.refl _ _, rfl⟩
theorem spec_SumPairs (b n c : Nat) (L : Nat → Nat) (hn : n ≤ 1048576) (hnc : n ≤ c) (hcm : c ≤ 9223372036854775807) (w : World) (hc : FS w b 0 n L) :
    Calls Try.prog 21 #[.slice (some ⟨b, 0, none⟩) n c] w (NumFlag (if n ≤ 256 then pairF L n 0 n else 0) (decide (n ≤ 256)) w) := by
  have hc' : ∀ i, 0 ≤ i → i < 0 + n → w.cell? ⟨b, i, none⟩ = some (.float .f32 (L i)) := fun i _ hi => by have := hc i (by omega); rwa [Nat.zero_add] at this
  by_cases h : n ≤ 256
  · rw [if_pos h, decide_eq_true h]
    have h' : decide ((n : Int) ≤ 256) = true := decide_eq_true (by omega)
    have H := Lib.hid hc'
    clear hc hc'
    go_enter Try.func21, Try.ntmps21
    go_wp2_with (first | (go_at_call 55; go_in) | (go_at_call 60; refine (spec_pairs b L n 0 n c _ (Nat.le_refl _) hn hnc hcm H.out).mono ?_; rintro e w' ⟨r, m, rfl, hr, rfl⟩))
    go_ret2
    exact ⟨_, _, rfl, hr, rfl⟩
  · rw [if_neg h, decide_eq_false h]
    have h' : decide ((n : Int) ≤ 256) = false := decide_eq_false (by omega)
    clear hc hc'
    go_enter Try.func21, Try.ntmps21
    go_wp2_with (first | (go_at_call 55; go_in))
    go_ret2
    exact ⟨_, 0, rfl, Same.refl _ _, rfl⟩
theorem impl_SumPairs (b n c : Nat) (L : Nat → Nat) (hn : n ≤ 1048576) (hnc : n ≤ c) (hcm : c ≤ 9223372036854775807) (w : World) (hc : FS w b 0 n L) :
    Calls Try.prog 22 #[.slice (some ⟨b, 0, none⟩) n c] w (NumFlag (if n ≤ 256 then pairF L n 0 n else 0) (decide (n ≤ 256)) w) := by
  have hc' : ∀ i, 0 ≤ i → i < 0 + n → w.cell? ⟨b, i, none⟩ = some (.float .f32 (L i)) := fun i _ hi => by have := hc i (by omega); rwa [Nat.zero_add] at this
  by_cases h : n ≤ 256
  · rw [if_pos h, decide_eq_true h]
    have h' : decide (256 < (n : Int)) = false := decide_eq_false (by omega)
    have H := Lib.hid hc'
    clear hc hc'
    go_enter Try.func22, Try.ntmps22
    go_wp2_with (first | (go_at_call 61; refine (impl_pairs b L n 0 n c _ (Nat.le_refl _) hn hnc hcm H.out).mono ?_; rintro e w' ⟨r, m, rfl, hr, rfl⟩))
    go_ret2
    exact ⟨_, _, rfl, hr, rfl⟩
  · rw [if_neg h, decide_eq_false h]
    have h' : decide (256 < (n : Int)) = true := decide_eq_true (by omega)
    clear hc hc'
    go_enter Try.func22, Try.ntmps22
    go_wp2_with fail
    go_ret2
    exact ⟨_, 0, rfl, Same.refl _ _, rfl⟩
theorem spec_DotNumbers (b1 o1 c1 n b2 o2 c2 p : Nat) (L M : Nat → Nat) (hn : n ≤ 1048576) (hp : p ≤ 1048576) (w : World) (h1 : FS w b1 o1 n L) (h2 : FS w b2 o2 p M) :
    Calls Try.prog 14 #[.slice (some ⟨b1, o1, none⟩) n c1, .slice (some ⟨b2, o2, none⟩) p c2] w (NumFlag (if n ≤ 256 ∧ n = p then dotF L M n else 0) (decide (n ≤ 256 ∧ n = p)) w) := by
  by_cases h : n ≤ 256
  · have h' : decide ((n : Int) ≤ 256) = true := decide_eq_true (by omega)
    by_cases e : n = p
    · subst e
      rw [if_pos ⟨h, rfl⟩, decide_eq_true ⟨h, rfl⟩]
      have H1 := Lib.hid h1
      have H2 := Lib.hid h2
      clear h1 h2
      go_enter Try.func14, Try.ntmps14
      go_wp2_with (first | (go_at_call 55; go_in) | (go_at_call 56; refine (spec_dot _ _ _ _ _ _ _ _ _ hn _ H1.out H2.out).mono ?_; rintro e w' ⟨r, m, rfl, hr, rfl⟩))
      go_ret2
      exact ⟨_, _, rfl, hr, rfl⟩
    · rw [if_neg (fun q => e q.2), decide_eq_false (fun q => e q.2)]
      have e1 : ((n : Int) == (p : Int)) = false := by simp; omega
      have e2 : ((n : Int) != (p : Int)) = true := by simp; omega
      clear h1 h2
      go_enter Try.func14, Try.ntmps14
      go_wp2_with (first | (go_at_call 55; go_in))
      go_ret2
      exact ⟨_, 0, rfl, Same.refl _ _, rfl⟩
  · rw [if_neg (fun q => h q.1), decide_eq_false (fun q => h q.1)]
    have h' : decide ((n : Int) ≤ 256) = false := decide_eq_false (by omega)
    clear h1 h2
    go_enter Try.func14, Try.ntmps14
    go_wp2_with (first | (go_at_call 55; go_in))
    go_ret2
    exact ⟨_, 0, rfl, Same.refl _ _, rfl⟩
theorem impl_DotNumbers (b1 o1 c1 n b2 o2 c2 p : Nat) (L M : Nat → Nat) (hn : n ≤ 1048576) (hp : p ≤ 1048576) (w : World) (h1 : FS w b1 o1 n L) (h2 : FS w b2 o2 p M) :
    Calls Try.prog 16 #[.slice (some ⟨b1, o1, none⟩) n c1, .slice (some ⟨b2, o2, none⟩) p c2] w (NumFlag (if n ≤ 256 ∧ n = p then dotF L M n else 0) (decide (n ≤ 256 ∧ n = p)) w) := by
  by_cases h : n ≤ 256
  · have h' : decide (256 < (n : Int)) = false := decide_eq_false (by omega)
    by_cases e : n = p
    · subst e
      rw [if_pos ⟨h, rfl⟩, decide_eq_true ⟨h, rfl⟩]
      have H1 := Lib.hid h1
      have H2 := Lib.hid h2
      clear h1 h2
      go_enter Try.func16, Try.ntmps16
      go_wp2_with (first | (go_at_call 57; refine (impl_dot _ _ _ _ _ _ _ _ _ hn _ H1.out H2.out).mono ?_; rintro e w' ⟨r, m, rfl, hr, rfl⟩))
      go_ret2
      exact ⟨_, _, rfl, hr, rfl⟩
    · rw [if_neg (fun q => e q.2), decide_eq_false (fun q => e q.2)]
      have e1 : ((n : Int) == (p : Int)) = false := by simp; omega
      have e2 : ((n : Int) != (p : Int)) = true := by simp; omega
      clear h1 h2
      go_enter Try.func16, Try.ntmps16
      go_wp2_with fail
      go_ret2
      exact ⟨_, 0, rfl, Same.refl _ _, rfl⟩
  · rw [if_neg (fun q => h q.1), decide_eq_false (fun q => h q.1)]
    have h' : decide (256 < (n : Int)) = true := decide_eq_true (by omega)
    clear h1 h2
    go_enter Try.func16, Try.ntmps16
    go_wp2_with fail
    go_ret2
    exact ⟨_, 0, rfl, Same.refl _ _, rfl⟩

theorem FS.below {w w' : World} {b o n : Nat} {L : Nat → Nat} (hbel : Below w.heap.size w w') (hb : b < w.heap.size) (h : FS w b o n L) : FS w' b o n L := fun i hi => (hbel.cell (p := ⟨b, o + i, none⟩) hb).trans (h i hi)
theorem lt_below {w w' : World} {b : Nat} (hbel : Below w.heap.size w w') (hb : b < w.heap.size) : b < w'.heap.size := Nat.lt_of_lt_of_le hb hbel.size
/-- A law's argument: a slice of 32-bit numbers. -/
def Is_F (v : Value) (W : World) : Prop := (∃ a c, v = .slice a 0 c) ∨ ∃ b o n c L, v = .slice (some ⟨b, o, none⟩) n c ∧ b < W.heap.size ∧ n ≤ c ∧ c ≤ 9223372036854775807 ∧ FS W b o n L
open Go.ChangeShapes Go.WideShapes Go.Joins Go.Deep in
theorem opened_F {H : Type} {enc : TypeId × Value → H} {W : World} {b0 base : Nat} {spare : Nat → Bool} {held : Bool} {v : Value} {d : DataW H} {p : List MemPlace}
    (hv : Value.okWide Try.prog W .any b0 22 v) (h : DataW.Trod enc Try.prog W base spare held 22 v d p) : ∃ a, a = v ∧ Is_F a W := by
  refine ⟨v, rfl, ?_⟩
  obtain ⟨a0, len0, cap0, rfl⟩ := okWide_slice Try.underlying22 hv
  obtain ⟨m, hm⟩ := h
  rcases open_slice1 Try.underlying22 (by kernel_rfl) hm with ⟨hcs, _⟩ | ⟨a, len, cap, m2, n2, V, D, Pl, hcs, _, hl, hmx, hm2, _, hel⟩
  · left
    simp [Value.cells] at hcs
    obtain ⟨rfl, rfl, rfl⟩ := hcs
    exact ⟨_, _, rfl⟩
  · simp [Value.cells] at hcs
    obtain ⟨rfl, rfl, rfl⟩ := hcs
    by_cases h0 : len0 = 0
    · subst h0; exact .inl ⟨_, _, rfl⟩
    · right
      have hlm : len0 ≤ m2 := by rw [hm2]; split <;> omega
      have each : ∀ i, i < len0 → ∃ x, W.cell? (a.add i) = some (.float .f32 x) := fun i hi => by
        obtain ⟨h1, h2⟩ := hel i (by omega)
        obtain ⟨x, e, _⟩ := trod_float Try.underlying23 h2
        simp only [List.cons.injEq, and_true] at e
        exact ⟨x, by rw [h1, e]⟩
      obtain ⟨b, off, spot⟩ := a
      obtain ⟨x0, hx0⟩ := each 0 (by omega)
      have hspot : spot = none := by simpa [Addr.add] using World.cell?_spot hx0
      subst hspot
      have hL : ∃ L : Nat → Nat, ∀ i, i < len0 → W.cell? ⟨b, off + i, none⟩ = some (.float .f32 (L i)) := by
        refine ⟨fun i => if h : i < len0 then (each i h).choose else 0, fun i hi => ?_⟩
        simp only [dif_pos hi]
        rw [← add_plain]
        exact (each i hi).choose_spec
      obtain ⟨L, hL⟩ := hL
      refine ⟨b, off, len0, cap0, L, rfl, ?_, hl, by unfold maxLen at hmx; omega, hL⟩
      have := World.block_lt_of_cell? W _ (hL 0 (by omega)); exact this
end Go.Proofs.Ytcmmafkmfahijaa
