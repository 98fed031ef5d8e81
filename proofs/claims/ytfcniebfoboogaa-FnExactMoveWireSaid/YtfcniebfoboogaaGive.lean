/- A wire that is given if it is valid; the square. Conditions: as each says. -/
import Derived.Test.YtfcniebfoboogaaMark
import Derived.Test.YtfcniebfoboogaaMid
import Derived.Deep.AppendLies
import Derived.OwnWalk
namespace Go.Proofs.Ytfcniebfoboogaa
open Go.RowKit
attribute [local go_sem ↓] Go.wp_at_zero Go.wp_at_succ

def gA (b : Bool) (B : Nat) : Option Addr := if b then some ⟨B, 0, none⟩ else none
/-- The wire of block B, or nothing. -/
abbrev givenV (b : Bool) (B n c : Nat) (cl : Bool) (cu : Nat) : Value := wireV (.slice (gA b B) (gN b n) (gN b c)) (gC b cl) (gN b cu)
def GiveBack (b : Bool) (B n c : Nat) (cl : Bool) (cu : Nat) (w : World) (e : Ending) (w' : World) : Prop :=
  e = .returned (.tuple #[givenV b B n c cl cu, .bool b]) ∧ Below w.heap.size w w'
theorem give_of {b cl : Bool} {B n c cu : Nat} {P : Nat → Nat} {w w' : World} {e : Ending} (he : e = .returned (.tuple #[givenV b B n c cl cu, .bool b])) (hr : b = true → WRow B n P w') (h1 : w.heap.size ≤ B) (h2 : B < w'.heap.size) (hb : Below w.heap.size w w') : GiveW (gN b n) (gC b cl) (gN b cu) b P w e w' := by
  refine ⟨gA b B, gN b c, B, he, ?_, h1, h2, hb⟩
  cases b
  · exact .inl ⟨rfl, rfl⟩
  · exact .inr ⟨rfl, hr rfl⟩
theorem spec_give (B n c cu : Nat) (cl : Bool) (P : Nat → Nat) (hn : n ≤ 9223372036854775807) (w : World) (hv : VS w B 0 n P) :
    Calls Try.prog 64 #[wireV (.slice (some ⟨B, 0, none⟩) n c) cl cu] w (GiveBack (validB P n cu) B n c cl cu w) := by
  have HV := Lib.hid hv
  clear hv
  cases hval : validB P n cu
  all_goals
    go_enter Try.func64, Try.ntmps64
    go_wp2_with fail
    refine (spec_is _ B 0 n c cu P hn _ ?_ ?_ ?_).mono ?_
    · simp
    · simp
    · exact VS.keep (belowAlloc (belowAlloc (Below.refl _ _) _) _) HV.out
    rw [hval]
    rintro e w1 ⟨rfl, bel⟩
    have rz := Row3.keep bel (Row3.new _ _ _ _ _)
    have rb := Row3.keep bel (Row3.keep (belowAlloc (Below.refl _ _) _) (Row3.new _ _ _ _ _))
    simp only [World.size_alloc] at rz
    have RZ := Lib.hid rz
    obtain ⟨k0, k1, k2, _⟩ := rb
    obtain ⟨z0, z1, z2, zf0, zf1, zf2⟩ := rz
    have B1 := Lib.hid (belowNext (belowAlloc (belowAlloc (Below.refl w.heap.size w) _) _) bel)
    clear bel
    go_wp2_with fail
  · obtain ⟨t0, t1, t2, _⟩ := Row3.set (a' := .slice none 0 0) (b' := .bool false) (c' := .float .f32 0) RZ.out
    refine bodyPost_ret (v := .tuple #[givenV false B n c cl cu, .bool false]) (by simp [results, Try.results64, go_sem, t0, t1, t2, givenV, gN, gC, gA]) rfl ?_
    exact ⟨rfl, belowSet (belowSet (belowSet B1.out (Nat.le_succ _)) (Nat.le_succ _)) (Nat.le_succ _)⟩
  · obtain ⟨t0, t1, t2, _⟩ := Row3.set (a' := .slice (some ⟨B, 0, none⟩) n c) (b' := .bool cl) (c' := .float .f32 cu) RZ.out
    refine bodyPost_ret (v := .tuple #[givenV true B n c cl cu, .bool true]) (by simp [results, Try.results64, go_sem, t0, t1, t2, givenV, gN, gC, gA]) rfl ?_
    exact ⟨rfl, belowSet (belowSet (belowSet B1.out (Nat.le_succ _)) (Nat.le_succ _)) (Nat.le_succ _)⟩
theorem impl_ifWire (B n c cu : Nat) (cl : Bool) (P : Nat → Nat) (hn : n ≤ 9223372036854775807) (w : World) (hv : VS w B 0 n P) :
    Calls Try.prog 66 #[wireV (.slice (some ⟨B, 0, none⟩) n c) cl cu] w (GiveBack (validB P n cu) B n c cl cu w) := by
  have HV := Lib.hid hv
  clear hv
  cases hval : validB P n cu
  all_goals
    go_enter Try.func66, Try.ntmps66
    go_wp2_with fail
    refine (impl_ValidWire B 0 n c cu cl P hn _ ?_).mono ?_
    · exact VS.keep (belowAlloc (belowAlloc (Below.refl _ _) _) _) HV.out
    rw [hval]
    rintro e w1 ⟨rfl, bel⟩
    have rz := Row3.keep bel (Row3.new _ _ _ _ _)
    have rb := Row3.keep bel (Row3.keep (belowAlloc (Below.refl _ _) _) (Row3.new _ _ _ _ _))
    simp only [World.size_alloc] at rz
    have RZ := Lib.hid rz
    obtain ⟨k0, k1, k2, _⟩ := rb
    obtain ⟨z0, z1, z2, zf0, zf1, zf2⟩ := rz
    have B1 := Lib.hid (belowNext (belowAlloc (belowAlloc (Below.refl w.heap.size w) _) _) bel)
    clear bel
    go_wp2_with fail
  · obtain ⟨t0, t1, t2, _⟩ := Row3.set (a' := .slice none 0 0) (b' := .bool false) (c' := .float .f32 0) RZ.out
    refine bodyPost_ret (v := .tuple #[givenV false B n c cl cu, .bool false]) (by simp [results, Try.results66, go_sem, t0, t1, t2, givenV, gN, gC, gA]) rfl ?_
    exact ⟨rfl, belowSet (belowSet (belowSet B1.out (Nat.le_succ _)) (Nat.le_succ _)) (Nat.le_succ _)⟩
  · obtain ⟨t0, t1, t2, _⟩ := Row3.set (a' := .slice (some ⟨B, 0, none⟩) n c) (b' := .bool cl) (c' := .float .f32 cu) RZ.out
    refine bodyPost_ret (v := .tuple #[givenV true B n c cl cu, .bool true]) (by simp [results, Try.results66, go_sem, t0, t1, t2, givenV, gN, gC, gA]) rfl ?_
    exact ⟨rfl, belowSet (belowSet (belowSet B1.out (Nat.le_succ _)) (Nat.le_succ _)) (Nat.le_succ _)⟩
/-- Finite and greater than 0. -/
def lenB (x : Nat) : Bool := finB x && (FloatKind.f32.format.order x 0 == some .gt)
theorem spec_size (x : Nat) (w : World) : Calls Try.prog 63 #[.float .f32 x] w fun e w' => e = .returned (.bool (lenB x)) ∧ ∃ n, w' = w.drewN n := by
  cases h1 : finB x <;> cases h2 : (FloatKind.f32.format.order x 0 == some .gt)
  all_goals
    unfold lenB
    rw [h1, h2]
    go_enter Try.func63, Try.ntmps63
    go_wp2_with (first | (go_at_call 88; refine (spec_l01Finite _ _).mono ?_; rintro e w' ⟨rfl, n, rfl⟩))
    go_ret
    exact ⟨rfl, _, rfl⟩
theorem impl_isLength (x : Nat) (w : World) : Calls Try.prog 65 #[.float .f32 x] w fun e w' => e = .returned (.bool (lenB x)) ∧ ∃ n, w' = w.drewN n := by
  cases h1 : finB x <;> cases h2 : (FloatKind.f32.format.order x 0 == some .gt)
  all_goals
    unfold lenB
    rw [h1, h2]
    go_enter Try.func65, Try.ntmps65
    go_wp2_with (first | (go_at_call 53; refine (impl_IsFinite _ _).mono ?_; rintro e w' ⟨rfl, n, rfl⟩))
    go_ret
    exact ⟨rfl, _, rfl⟩
end Go.Proofs.Ytfcniebfoboogaa
