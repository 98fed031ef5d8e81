/- The program's wires with other points. Conditions: as each says. -/
import Derived.Test.YtfcniebfoboogaaChi
import Derived.Deep.RegionLaw
namespace Go.Proofs.Ytfcniebfoboogaa
open Go.RowKit
attribute [local go_sem ↓] Go.wp_at_zero Go.wp_at_succ

theorem secCell {w : World} {o1 : Obj} {v : Value} {t : TypeId} : ((w.alloc o1).alloc (.cells #[v] t)).cell? ⟨w.heap.size + 1, 0, none⟩ = some v := by
  have e : w.heap.size + 1 = (w.alloc o1).heap.size := by simp
  rw [e, World.cell?_alloc_new]; rfl
theorem ResP.setOther {a : Option Addr} {n B g i : Nat} {P : Nat → Nat} {w : World} {u : Value} (h : ResP a n P B w) (hn : B ≠ g) : ResP a n P B (w.setCell ⟨g, i, none⟩ u) := by
  rcases h with h | ⟨h, r⟩
  · exact .inl h
  · exact .inr ⟨h, r.setOther hn⟩
set_option maxRecDepth 100000 in
theorem impl_ScaleWire (b o n c cu : Nat) (s : Nat) (cl : Bool) (P : Nat → Nat) (hn : n ≤ 9223372036854775807) (w : World) (hv : VS w b o n P) :
    Calls Try.prog 48 #[wireV (.slice (some ⟨b, o, none⟩) n c) cl cu, .float .f32 s] w (GiveW (gN (twoB P (scaleP P s) n cu) n) (gC (twoB P (scaleP P s) n cu) cl) (gN (twoB P (scaleP P s) n cu) cu) (twoB P (scaleP P s) n cu) (scaleP P s) w) := by
  have HV := Lib.hid hv
  clear hv
  have CH := Lib.hid (fun (wx : World) hq hv => impl_changedScaleWire b o n c cu (w.heap.size + 1) s cl P hn wx hq hv)
  generalize gN (twoB P (scaleP P s) n cu) n = N at *
  generalize gC (twoB P (scaleP P s) n cu) cl = CL at *
  generalize gN (twoB P (scaleP P s) n cu) cu = CU at *
  generalize twoB P (scaleP P s) n cu = FL at *
  go_enter Try.func48, Try.ntmps48
  go_wp2_with fail
  refine (CH.out _ ?_ ?_).mono ?_
  · exact cellAlloc secCell _
  · exact VS.keep (belowAlloc (belowAlloc (belowAlloc (Below.refl _ _) _) _) _) HV.out
  rintro e w1 ⟨a, cc, B, rfl, hr, hB1, hB2, bel⟩
  have RZ := Lib.hid (threeBoxes bel)
  obtain ⟨z0, z1, z2, zf0, zf1, zf2⟩ := RZ.out
  have B1 := Lib.hid (belowNext (belowAlloc (belowAlloc (belowAlloc (Below.refl w.heap.size w) _) _) _) bel)
  have HR := Lib.hid hr
  simp only [World.size_alloc] at hB1
  clear bel hr
  go_wp2_with fail
  obtain ⟨t0, t1, t2, _⟩ := Row3.set (a' := .slice a N cc) (b' := .bool CL) (c' := .float .f32 CU) RZ.out
  refine bodyPost_ret (v := .tuple #[wireV (.slice a N cc) CL CU, .bool FL]) (by simp [results, Try.results48, go_sem, t0, t1, t2]) rfl ?_
  have ng : B ≠ w.heap.size + 1 + 1 := by omega
  exact ⟨a, cc, B, rfl, ((HR.out.setOther ng).setOther ng).setOther ng, by omega, by simpa using hB2, belowSet (belowSet (belowSet B1.out (by omega)) (by omega)) (by omega)⟩
set_option maxRecDepth 100000 in
theorem impl_MoveWire (b o n c cu : Nat) (x y z : Nat) (cl : Bool) (P : Nat → Nat) (hn : n ≤ 9223372036854775807) (w : World) (hv : VS w b o n P) :
    Calls Try.prog 46 #[wireV (.slice (some ⟨b, o, none⟩) n c) cl cu, vecV x y z] w (GiveW (gN (twoB P (moveP P x y z) n cu) n) (gC (twoB P (moveP P x y z) n cu) cl) (gN (twoB P (moveP P x y z) n cu) cu) (twoB P (moveP P x y z) n cu) (moveP P x y z) w) := by
  have HV := Lib.hid hv
  clear hv
  have CH := Lib.hid (fun (wx : World) hq hv => impl_changedMoveWire b o n c cu (w.heap.size + 1) x y z cl P hn wx hq hv)
  generalize gN (twoB P (moveP P x y z) n cu) n = N at *
  generalize gC (twoB P (moveP P x y z) n cu) cl = CL at *
  generalize gN (twoB P (moveP P x y z) n cu) cu = CU at *
  generalize twoB P (moveP P x y z) n cu = FL at *
  go_enter Try.func46, Try.ntmps46
  go_wp2_with fail
  refine (CH.out _ ?_ ?_).mono ?_
  · exact secBox (Below.refl _ _)
  · exact VS.keep (belowAlloc (belowAlloc (belowAlloc (Below.refl _ _) _) _) _) HV.out
  rintro e w1 ⟨a, cc, B, rfl, hr, hB1, hB2, bel⟩
  have RZ := Lib.hid (threeBoxes bel)
  obtain ⟨z0, z1, z2, zf0, zf1, zf2⟩ := RZ.out
  have B1 := Lib.hid (belowNext (belowAlloc (belowAlloc (belowAlloc (Below.refl w.heap.size w) _) _) _) bel)
  have HR := Lib.hid hr
  simp only [World.size_alloc] at hB1
  clear bel hr
  go_wp2_with fail
  obtain ⟨t0, t1, t2, _⟩ := Row3.set (a' := .slice a N cc) (b' := .bool CL) (c' := .float .f32 CU) RZ.out
  refine bodyPost_ret (v := .tuple #[wireV (.slice a N cc) CL CU, .bool FL]) (by simp [results, Try.results46, go_sem, t0, t1, t2]) rfl ?_
  have ng : B ≠ w.heap.size + 1 + 1 := by omega
  exact ⟨a, cc, B, rfl, ((HR.out.setOther ng).setOther ng).setOther ng, by omega, by simpa using hB2, belowSet (belowSet (belowSet B1.out (by omega)) (by omega)) (by omega)⟩
end Go.Proofs.Ytfcniebfoboogaa
