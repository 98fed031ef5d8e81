/- Contracts for the law of angles: gaps, flushed numbers, sixteenths. Conditions: as each says. -/
import Derived.Test.YtcmmafkmfahijaaPt
import Derived.Test.YtcmmafkmfahijaaSumL
import Derived.Test.YtcmmafkmfahijaaStep
namespace Go.Proofs.Ytcmmafkmfahijaa
open Go.RowKit
attribute [local go_sem ↓] Go.wp_at_zero Go.wp_at_succ
open Ieee (single double)

theorem gap_of (u v : Nat) (w : World) : Calls Try.prog 44 #[.float .f64 u, .float .f64 v] w fun e w' => ∃ r n, e = .returned (.float .f64 r) ∧ Same .f64 r (gapW u v) ∧ w' = w.drewN n := by
  by_cases h : (FloatKind.f64.format.order u v == some .lt) = true
  · have e : gapW u v = fop .sub .f64 v u := by unfold gapW; rw [if_pos h]
    rw [e]
    clear e
    go_enter Try.func44, Try.ntmps44
    go_wp2_with (refine wpList_fop rfl rfl rfl rfl rfl ?_; intro _ _ _)
    go_ret
    exact ⟨_, _, rfl, by assumption, rfl⟩
  · have e : gapW u v = fop .sub .f64 u v := by unfold gapW; rw [if_neg h]
    have h' : (FloatKind.f64.format.order u v == some .lt) = false := by simpa using h
    rw [e]
    clear e h
    go_enter Try.func44, Try.ntmps44
    go_wp2_with (refine wpList_fop rfl rfl rfl rfl rfl ?_; intro _ _ _)
    go_ret
    exact ⟨_, _, rfl, by assumption, rfl⟩
theorem q16_num : ∀ i : Fin 129, nanB .f32 (fop .quo .f32 (K single ((i.val : Int) - 64)) 1098907648) = false := by decide +kernel
theorem q16_zero : ∀ i : Fin 129, (FloatKind.f32.format.order (q16 ((i.val : Int) - 64)) 0 == some .eq) = decide (i.val = 64) := by decide +kernel
theorem spec_same_gen (x y : Nat) (hx : x < 4294967296) (hy : y < 4294967296) (w : World) : Calls Try.prog 27 #[.float .f32 x, .float .f32 y] w fun e w' => e = .returned (.bool (sameB x y)) ∧ w = w' := by
  have hs : ∀ v : World, Calls Try.prog 71 #[.float .f32 x, .float .f32 y] v fun e v' => e = .returned (.bool (sameB x y)) ∧ v = v' := by
    intro v
    have CX := Lib.hid (fun v : World => spec_l01Bits x hx v)
    have CY := Lib.hid (fun v : World => spec_l01Bits y hy v)
    go_enter Try.func71, Try.ntmps71
    go_wp2_with (go_at_call 74; first | ((with_reducible refine (CX.out _).mono ?_); rintro e w' ⟨rfl, rfl⟩) | ((with_reducible refine (CY.out _).mono ?_); rintro e w' ⟨rfl, rfl⟩))
    go_ret
    exact ⟨rfl, rfl⟩
  have HS := Lib.hid hs
  clear hs
  go_enter Try.func27, Try.ntmps27
  go_wp2_with (go_at_call 71; refine (HS.out _).mono ?_; rintro e w' ⟨rfl, rfl⟩)
  go_ret
  exact ⟨rfl, rfl⟩
theorem flush_lt {z : Nat} (hz : z < 4294967296) : flushF z < 4294967296 := by unfold flushF; split <;> omega
theorem flush_sub (z : Nat) : subB (flushF z) = false := by
  unfold subB flushF
  rw [decide_eq_false_iff_not]
  split
  · rename_i h; rintro ⟨h1, h2⟩; unfold Go.Proofs.Ytcmmafkmfahijaa.rungAt at *; rw [single_sign] at *; omega
  · rename_i h; omega
theorem flush_same {z : Nat} (hz : z < 4294967296) : sameB z (flushF z) = Bool.not (subB z) := by
  unfold subB flushF
  have hr : rungAt single z = z % 2147483648 := by unfold Go.Proofs.Ytcmmafkmfahijaa.rungAt; rw [single_sign]
  by_cases h : rungAt single z < 8388608
  · rw [if_pos h]
    have n1 : nanB .f32 z = false := by rw [nan32, decide_eq_false_iff_not, ← hr]; omega
    have n2 : nanB .f32 (z / 2147483648 % 2 * 2147483648) = false := by rw [nan32, decide_eq_false_iff_not]; omega
    rw [sameB_none n1 n2]
    by_cases h0 : 0 < rungAt single z
    · rw [decide_eq_true ⟨h0, h⟩]
      have : ¬ z = z / 2147483648 % 2 * 2147483648 := by omega
      simpa using this
    · rw [decide_eq_false (fun q => h0 q.1)]
      have : z = z / 2147483648 % 2 * 2147483648 := by omega
      rw [← this]; simp
  · rw [if_neg h, decide_eq_false (fun q => h q.2)]
    unfold sameB
    simp
theorem q16_eq (k : Int) : q16 k = fop .quo .f32 (floatOfInt .f32 k) 1098907648 := by rw [ofInt32]; rfl
theorem q16f {i : Nat} (hi : i < 129) : nanB .f32 (fop .quo .f32 (floatOfInt .f32 ((i : Int) - 64)) 1098907648) = false := by
  have h := q16_num ⟨i, hi⟩
  rw [ofInt32]
  exact h
theorem q16z {i : Nat} (hi : i < 129) : (FloatKind.f32.format.order (fop .quo .f32 (floatOfInt .f32 ((i : Int) - 64)) 1098907648) 0 == some .eq) = decide (i = 64) := by
  have h := q16_zero ⟨i, hi⟩
  rw [q16_eq] at h
  exact h
theorem nn32 {x : Nat} (h : n32 x = true) : nanB .f32 x = false := by rw [n32_eq] at h; simpa using h
theorem nn64 {x : Nat} (h : n64 x = true) : nanB .f64 x = false := by rw [n64_eq] at h; simpa using h
theorem bnot_false {b : Bool} (h : Bool.not b = true) : b = false := by cases b <;> simp_all
/-- A good point, opened: each number under its own letter. -/
theorem pt_open {Y X : Nat} (h : ptB Y X = true) : ∃ A B R Q SA SC S C gs gc, (angF Y X = A ∧ angF (Op.negFloat .f32 Y) X = B ∧ pR Y X = R ∧ ad A 1048576000 = Q ∧ sineF A = SA ∧ sineF Q = SC ∧
    fop .mul .f64 (cv SA) (cv R) = S ∧ fop .mul .f64 (cv SC) (cv R) = C ∧ gapW S (cv Y) = gs ∧ gapW C (cv X) = gc) ∧
    (nanB .f32 A = false ∧ nanB .f32 B = false ∧ nanB .f32 R = false ∧ nanB .f32 Q = false ∧ nanB .f32 SA = false ∧ nanB .f32 SC = false ∧ nanB .f64 S = false ∧ nanB .f64 C = false ∧ nanB .f64 gs = false ∧ nanB .f64 gc = false) ∧
    (FloatKind.f32.format.order A 3204448256 == some .gt || FloatKind.f32.format.order A 3204448256 == some .eq) = true ∧ (FloatKind.f32.format.order A 1056964608 == some .gt) = false ∧
    (FloatKind.f64.format.order gs 4547007122018943789 == some .gt) = false ∧ (FloatKind.f64.format.order gc 4547007122018943789 == some .gt) = false ∧
    ((FloatKind.f32.format.order Y 0 == some .eq) || (FloatKind.f32.format.order A (Op.negFloat .f32 B) == some .eq)) = true := by
  refine ⟨_, _, _, _, _, _, _, _, _, _, ⟨rfl, rfl, rfl, rfl, rfl, rfl, rfl, rfl, rfl, rfl⟩, ?_⟩
  unfold ptB askP pS pQ at h
  simp only [Bool.and_eq_true] at h
  obtain ⟨⟨⟨⟨⟨⟨⟨⟨⟨⟨⟨⟨⟨⟨h1, h2⟩, h3⟩, h4⟩, h5⟩, h6⟩, h7⟩, h8⟩, h9⟩, h10⟩, h11⟩, h12⟩, h13⟩, h14⟩, h15⟩ := h
  rw [← for32_eq] at h11 h12 h15
  rw [← for32_eq] at h15
  rw [← fcmp_eq] at h13 h14
  exact ⟨⟨nn32 h1, nn32 h2, nn32 h3, nn32 h4, nn32 h5, nn32 h6, nn64 h7, nn64 h8, nn64 h9, nn64 h10⟩, h11, bnot_false h12, bnot_false h13, bnot_false h14, h15⟩
end Go.Proofs.Ytcmmafkmfahijaa
