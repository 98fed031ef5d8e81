/- The next number and the one before, by their keys; bytes as a law's argument. Conditions: as each says. -/
import Derived.Test.YtcmmafkmfahijaaStep
import Derived.Test.YtcmmafkmfahijaaSrc
import Derived.Test.YtcmmafkmfahijaaOpen
namespace Go.Proofs.Ytcmmafkmfahijaa
open Go.RowKit
open Ieee (single double)

theorem ordGt {a b : Nat} (ha : nanB .f32 a = false) (hb : nanB .f32 b = false) : (FloatKind.f32.format.order a b == some .gt) = decide (keyOf single b < keyOf single a) := by
  rw [order_eq, ha, hb]
  simp only [Bool.or_self, Bool.false_eq_true, if_false]
  show (some (compare (keyOf single a) (keyOf single b)) == some .gt) = _
  rcases Int.lt_trichotomy (keyOf single a) (keyOf single b) with l | l | l
  · rw [cmp_lt l, decide_eq_false (by omega)]; rfl
  · rw [cmp_eq l, decide_eq_false (by omega)]; rfl
  · rw [cmp_gt l, decide_eq_true l]; rfl
theorem ordLt {a b : Nat} (ha : nanB .f32 a = false) (hb : nanB .f32 b = false) : (FloatKind.f32.format.order a b == some .lt) = decide (keyOf single a < keyOf single b) := by
  rw [order_eq, ha, hb]
  simp only [Bool.or_self, Bool.false_eq_true, if_false]
  show (some (compare (keyOf single a) (keyOf single b)) == some .lt) = _
  rcases Int.lt_trichotomy (keyOf single a) (keyOf single b) with l | l | l
  · rw [cmp_lt l, decide_eq_true l]; rfl
  · rw [cmp_eq l, decide_eq_false (by omega)]; rfl
  · rw [cmp_gt l, decide_eq_false (by omega)]; rfl
theorem ordEq {a b : Nat} (ha : nanB .f32 a = false) (hb : nanB .f32 b = false) : (FloatKind.f32.format.order a b == some .eq) = decide (keyOf single a = keyOf single b) := by
  rw [order_eq, ha, hb]
  simp only [Bool.or_self, Bool.false_eq_true, if_false]
  show (some (compare (keyOf single a) (keyOf single b)) == some .eq) = _
  rcases Int.lt_trichotomy (keyOf single a) (keyOf single b) with l | l | l
  · rw [cmp_lt l, decide_eq_false (by omega)]; rfl
  · rw [cmp_eq l, decide_eq_true l]; rfl
  · rw [cmp_gt l, decide_eq_false (by omega)]; rfl
theorem ordNan {a b : Nat} {o : Ordering} (h : nanB .f32 a = true) : (FloatKind.f32.format.order a b == some o) = false := by
  rw [order_nan_left _ h]; rfl
theorem key_pos {x : Nat} (h : x < 2147483648) : keyOf single x = x := by
  unfold keyOf negOf rungAt
  rw [single_sign, Nat.div_eq_of_lt h, Nat.mod_eq_of_lt h]; rfl
theorem key_negv {x : Nat} (h : 2147483648 ≤ x) (hx : x < 4294967296) : keyOf single x = -((x : Int) - 2147483648) := by
  unfold keyOf negOf rungAt
  rw [single_sign, show x / 2147483648 = 1 by omega, show x % 2147483648 = x - 2147483648 by omega]
  unfold sgn
  rw [if_pos (by decide)]
  omega
theorem num_pos {x : Nat} (h : x < 2147483648) : nanB .f32 x = decide (2139095040 < x) := by rw [nan32, Nat.mod_eq_of_lt h]
theorem num_negv {x : Nat} (h : 2147483648 ≤ x) (hx : x < 4294967296) : nanB .f32 x = decide (2139095040 < x - 2147483648) := by rw [nan32, show x % 2147483648 = x - 2147483648 by omega]
theorem num_neg2 {m : Nat} (h : m < 2147483648) : nanB .f32 (2147483648 + m) = decide (2139095040 < m) := by
  rw [nan32, Nat.add_mod_left, Nat.mod_eq_of_lt h]
theorem key_neg2 {m : Nat} (h : m < 2147483648) : keyOf single (2147483648 + m) = -(m : Int) := by
  rw [key_negv (by omega) (by omega)]; omega
/-- The next greater number: its key is the next one. -/
theorem nextF_key {x : Nat} (hx : x < 4294967296) (hn : nanB .f32 x = false) (hi : x ≠ 2139095040) : nanB .f32 (nextF x) = false ∧ keyOf single (nextF x) = keyOf single x + 1 ∧ nextF x < 4294967296 := by
  refine ⟨?_, ?_, nextF_lt hx⟩
  all_goals
    unfold nextF
    rw [hn, if_neg (by decide), if_neg hi]
    by_cases hl : x < 2147483648
    · have hr : rungAt single x = x := Nat.mod_eq_of_lt hl
      have hs : negOf single x = false := by unfold negOf; rw [single_sign, Nat.div_eq_of_lt hl]; rfl
      have hc := num_pos hl
      rw [hn] at hc
      have hc' := of_decide_eq_false hc.symm
      rw [hr, hs]
      by_cases h0 : x = 0
      · subst h0; rw [if_pos rfl]; decide +kernel
      · rw [if_neg h0, if_neg (by decide)]
        first
          | (rw [num_pos (by omega)]; exact decide_eq_false (by omega))
          | (rw [key_pos (by omega), key_pos hl]; omega)
    · obtain ⟨m, rfl⟩ := Nat.exists_eq_add_of_le (show 2147483648 ≤ x by omega)
      have hm : m < 2147483648 := by omega
      have hr : rungAt single (2147483648 + m) = m := by unfold rungAt; rw [single_sign, Nat.add_mod_left, Nat.mod_eq_of_lt hm]
      have hs : negOf single (2147483648 + m) = true := by unfold negOf; rw [single_sign, show (2147483648 + m) / 2147483648 = 1 by omega]; rfl
      have hc := num_neg2 hm
      rw [hn] at hc
      have hc' := of_decide_eq_false hc.symm
      rw [hr, hs]
      by_cases h0 : m = 0
      · subst h0; rw [if_pos rfl]; decide +kernel
      · obtain ⟨j, rfl⟩ : ∃ j, m = j + 1 := ⟨m - 1, by omega⟩
        have e : 2147483648 + (j + 1) - 1 = 2147483648 + j := by omega
        rw [if_neg h0, if_pos rfl, e]
        first
          | (rw [num_neg2 (by omega), decide_eq_false_iff_not]; omega)
          | (rw [key_neg2 (by omega), key_neg2 hm]; omega)
def prevF (x : Nat) : Nat := Op.negFloat .f32 (nextF (Op.negFloat .f32 x))
theorem key_neg {x : Nat} (hx : x < 4294967296) : keyOf single (Op.negFloat .f32 x) = -keyOf single x := by
  unfold keyOf
  rw [rung_neg, neg_sign hx]
  cases negOf single x <;> simp [sgn]
theorem prevF_key {x : Nat} (hx : x < 4294967296) (hn : nanB .f32 x = false) (hi : x ≠ 4286578688) : nanB .f32 (prevF x) = false ∧ keyOf single (prevF x) = keyOf single x - 1 ∧ prevF x < 4294967296 := by
  have h1 := neg_lt hx
  have h2 : nanB .f32 (Op.negFloat .f32 x) = false := by rw [nan_neg]; exact hn
  have h3 : Op.negFloat .f32 x ≠ 2139095040 := fun e => hi (by
    have h := congrArg (Op.negFloat .f32) e
    rw [neg_neg] at h
    rw [h]; rfl)
  obtain ⟨a, b, c⟩ := nextF_key h1 h2 h3
  unfold prevF
  refine ⟨by rw [nan_neg]; exact a, ?_, neg_lt c⟩
  rw [key_neg c, b, key_neg hx]; omega
theorem up_num (x : Nat) (hx : x < 4294967296) (h : nanB .f32 (nextF x) = false) (w : World) : Calls Try.prog 36 #[.float .f32 x] w fun e w' => e = .returned (.float .f32 (nextF x)) ∧ ∃ n, w' = w.drewN n := by
  refine (impl_NextUp x hx w).mono ?_
  rintro e w' ⟨r, n, rfl, hr, rfl⟩
  rcases hr with rfl | ⟨_, h2⟩
  · exact ⟨rfl, n, rfl⟩
  · rw [h] at h2; cases h2
theorem impl_NextDown (x : Nat) (hx : x < 4294967296) (w : World) : Calls Try.prog 37 #[.float .f32 x] w fun e w' => ∃ r n, e = .returned (.float .f32 r) ∧ Same .f32 r (prevF x) ∧ w' = w.drewN n := by
  have hl := neg_lt hx
  go_enter Try.func37, Try.ntmps37
  go_wp2_with (go_at_call 36; refine (impl_NextUp _ hl _).mono ?_; rintro e w' ⟨r, n, rfl, hr, rfl⟩)
  go_ret
  exact ⟨_, _, rfl, neg_same hr, rfl⟩
theorem down_num (x : Nat) (hx : x < 4294967296) (h : nanB .f32 (prevF x) = false) (w : World) : Calls Try.prog 37 #[.float .f32 x] w fun e w' => e = .returned (.float .f32 (prevF x)) ∧ ∃ n, w' = w.drewN n := by
  refine (impl_NextDown x hx w).mono ?_
  rintro e w' ⟨r, n, rfl, hr, rfl⟩
  rcases hr with rfl | ⟨_, h2⟩
  · exact ⟨rfl, n, rfl⟩
  · rw [h] at h2; cases h2
/-- A law's argument: bytes. -/
def Is_B (v : Value) (W : World) : Prop := ∃ a n c, v = .slice a n c ∧ n ≤ 9223372036854775807 ∧ Bytes W.heap.size a n W
open Go.ChangeShapes Go.WideShapes Go.Joins Go.Deep in
theorem opened_B {H : Type} {enc : TypeId × Value → H} {W : World} {b0 base : Nat} {spare : Nat → Bool} {held : Bool} {v : Value} {d : DataW H} {p : List MemPlace}
    (hv : Value.okWide Try.prog W .any b0 34 v) (h : DataW.Trod enc Try.prog W base spare held 34 v d p) : ∃ a, a = v ∧ Is_B a W := by
  refine ⟨v, rfl, ?_⟩
  obtain ⟨a0, len0, cap0, rfl⟩ := okWide_slice Try.underlying34 hv
  obtain ⟨m, hm⟩ := h
  rcases open_slice1 Try.underlying34 (by kernel_rfl) hm with ⟨hcs, _⟩ | ⟨a, len, cap, m2, n2, V, D, Pl, hcs, _, hl, hmx, hm2, _, hel⟩
  · simp [Value.cells] at hcs
    obtain ⟨rfl, rfl, rfl⟩ := hcs
    exact ⟨_, _, _, rfl, by omega, .inl rfl⟩
  · simp [Value.cells] at hcs
    obtain ⟨rfl, rfl, rfl⟩ := hcs
    by_cases h0 : len0 = 0
    · subst h0; exact ⟨_, _, _, rfl, by omega, .inl rfl⟩
    · have hlm : len0 ≤ m2 := by rw [hm2]; split <;> omega
      have each : ∀ i, i < len0 → ∃ x : Int, 0 ≤ x ∧ x < 256 ∧ W.cell? (a.add i) = some (.int .u8 x) := fun i hi => by
        obtain ⟨h1, h2⟩ := hel i (by omega)
        obtain ⟨x, e, _, wf⟩ := DataW.trod_int Try.underlying5 h2
        simp only [List.cons.injEq, and_true] at e
        have wx : (Lit.int .u8 x).wf = true := wf
        simp only [Lit.wf] at wx
        have m0 : IntKind.u8.min = 0 := rfl
        have m1 : IntKind.u8.max = 255 := rfl
        simp at wx
        refine ⟨x, by omega, by omega, by rw [h1, e]⟩
      obtain ⟨b, off, spot⟩ := a
      obtain ⟨x0, _, _, hx0⟩ := each 0 (by omega)
      have hspot : spot = none := by simpa [Addr.add] using World.cell?_spot hx0
      subst hspot
      refine ⟨_, _, _, rfl, by unfold maxLen at hmx; omega, .inr ⟨b, off, rfl, ?_, fun i hi => ?_⟩⟩
      · exact World.block_lt_of_cell? W _ hx0
      · obtain ⟨x, g0, g1, g2⟩ := each i hi
        rw [add_plain] at g2
        exact ⟨x, g0, g1, g2⟩
end Go.Proofs.Ytcmmafkmfahijaa
