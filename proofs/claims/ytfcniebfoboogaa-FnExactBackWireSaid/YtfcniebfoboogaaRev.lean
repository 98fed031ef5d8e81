/- slices.Reverse. Conditions: as it says. -/
import Derived.Test.YtfcniebfoboogaaBack
namespace Go.Proofs.Ytfcniebfoboogaa
open Go.RowKit
attribute [local go_sem ↓] Go.wp_at_zero Go.wp_at_succ
theorem WRow.drewn {B n : Nat} {P : Nat → Nat} {w : World} (h : WRow B n P w) : WRow B n P w.drew := h.ofBlock rfl
theorem Aside.drewn {B : Nat} {w w1 : World} (h : Aside B w w1) : Aside B w w1.drew := ⟨h.os, h.tape, h.output, h.size, h.block⟩
set_option maxRecDepth 100000 in
set_option maxHeartbeats 2000000 in
theorem reverse_V (B n c : Nat) (P : Nat → Nat) (h2 : 2 ≤ n) (h48 : n ≤ 48) (w : World) (h : WRow B n P w) :
    Calls Try.prog 81 #[.slice (some ⟨B, 0, none⟩) n c] w fun e w' => (∃ v, e = .returned v) ∧ WRow B n (revP P n) w' ∧ Aside B w w' := by
  have HW := Lib.hid h
  clear h
  go_enter Try.func81, Try.ntmps81
  go_wp2_with fail
  go_loopw [2, 3] (fun i j wr => ∃ k : Nat, k ≤ n - k ∧ i = .int .i64 k ∧ j = .int .i64 ((n : Int) - 1 - k) ∧ WRow B n (swapP P n k) wr ∧ Aside B w wr) (fun i _ _ => n - (intOf i).toNat)
  case atStart => exact ⟨0, by omega, rfl, by go_num, HW.out.congr (fun j hj => by unfold swapP; rw [if_neg (by omega)]), Aside.of B (Below.refl _ _)⟩
  case round =>
    obtain ⟨k, hk, rfl, rfl, hrow, has⟩ := hrel
    have H := Lib.hid (And.intro hrow has)
    by_cases hlt : k < n - 1 - k
    · obtain ⟨m, hm⟩ : ∃ m, m = n - 1 - k := ⟨_, rfl⟩
      have hmi : (n : Int) - 1 - k = (m : Int) := by omega
      rw [hmi]
      obtain ⟨s0, s1, s2⟩ := swapP_at (P := P) (n := n) (k := k) (m := k) (by omega) (by omega)
      obtain ⟨r0, r1, r2⟩ := swapP_at (P := P) (n := n) (k := k) (m := m) (by omega) (by omega)
      have hx := hrow.vs.three (k := k) (by omega)
      have hy := hrow.vs.three (k := m) (by omega)
      rw [s0, s1, s2] at hx
      rw [r0, r1, r2] at hy
      simp only [Nat.zero_add] at hx hy
      obtain ⟨x0, x1, x2⟩ := hx
      obtain ⟨y0, y1, y2⟩ := hy
      have f0 := hrow.frozen (k * 3)
      have f1 := hrow.frozen (k * 3 + 1)
      have f2 := hrow.frozen (k * 3 + 2)
      have g0 := hrow.frozen (m * 3)
      have g1 := hrow.frozen (m * 3 + 1)
      have g2 := hrow.frozen (m * 3 + 2)
      have p0 : (0 : Int) ≤ (k : Int) := by omega
      have p1 : (k : Int) < (n : Int) := by omega
      have p2 : (0 : Int) ≤ (m : Int) := by omega
      have p3 : (m : Int) < (n : Int) := by omega
      have lkm : (k : Int) < (m : Int) := by omega
      have hw1 : IntKind.i64.wrap ((m : Int) - 1) = (m : Int) - 1 := IntWalk.i64_in _ (by omega)
      have HM := Lib.hid hm
      have lmn : m < n := by omega
      clear hrow has s0 s1 s2 r0 r1 r2 hm hmi
      go_wp2_with fail
      go_region
      have hs := ((((((H.out.1.set (k * 3) (P (m * 3))).set (k * 3 + 1) (P (m * 3 + 1))).set (k * 3 + 2) (P (m * 3 + 2))).set (m * 3) (P (k * 3))).set (m * 3 + 1) (P (k * 3 + 1))).set (m * 3 + 2) (P (k * 3 + 2))).congr (fun j _ => swapP_set P HM.out (by omega))
      have HX := Lib.hid (And.intro hs (Aside.set (Aside.set (Aside.set (Aside.set (Aside.set (Aside.set H.out.2 (k * 3) (.float .f32 (P (m * 3)))) (k * 3 + 1) (.float .f32 (P (m * 3 + 1)))) (k * 3 + 2) (.float .f32 (P (m * 3 + 2)))) (m * 3) (.float .f32 (P (k * 3)))) (m * 3 + 1) (.float .f32 (P (k * 3 + 1)))) (m * 3 + 2) (.float .f32 (P (k * 3 + 2)))))
      clear hs
      go_wp2_with fail
      go_roundw
      case rel => exact ⟨k + 1, by have h := HM.out; omega, by go_num, by rw [show (n : Int) - 1 - ((k + 1 : Nat) : Int) = (m : Int) - 1 by have h := HM.out; omega], HX.out.1.drewn, HX.out.2.drewn⟩
      case measure => simp [intOf]; omega
    · have hge : ¬ (k : Int) < (n : Int) - 1 - k := by omega
      clear hrow has
      go_wp2_with fail
      refine bodyPost_end (v := .tuple #[]) (by simp [results, Try.results81, go_sem]) rfl ?_
      exact ⟨⟨_, rfl⟩, H.out.1.congr (fun j hj => swapP_done P hlt hk hj), H.out.2⟩
end Go.Proofs.Ytfcniebfoboogaa
