/- Contracts of the next number, of flushing and of the infinities. Conditions: the bits are those of a 32-bit number. -/
import Derived.Test.YtcmmafkmfahijaaSub
namespace Go.Proofs.Ytcmmafkmfahijaa
open Go.RowKit
open Ieee (single double)

theorem narrow_some {u c r : Nat} (h : floatToFloatBits .f64 u .f32 = some c) (hr : Narrow u r) : r = c := hr.2 c h
theorem narrow_nan {u r : Nat} (h : nanB .f64 u = true) (hr : Narrow u r) : nanB .f32 r = true := hr.1 h

theorem impl_infinity (w : World) : Calls Try.prog 79 #[] w fun e w' => e = .returned (.float .f32 2139095040) ∧ ∃ n, w' = w.drewN n := by
  go_enter Try.func79, Try.ntmps79
  go_wp2_with (first | (refine wpList_narrow some64 Try.underlying23 rfl rfl rfl ?_; intro _ _ _) | (go_at_call 109; go_in))
  go_ret
  rename_i r n hr
  exact ⟨ret_float (narrow_some (by decide +kernel) hr), _, rfl⟩
theorem impl_noNumber (w : World) : Calls Try.prog 63 #[] w fun e w' => ∃ r n, e = .returned (.float .f32 r) ∧ nanB .f32 r = true ∧ w' = w.drewN n := by
  go_enter Try.func63, Try.ntmps63
  go_wp2_with (first | (refine wpList_narrow some64 Try.underlying23 rfl rfl rfl ?_; intro _ _ _) | (go_at_call 102; go_in))
  go_ret
  rename_i r n hr
  exact ⟨r, _, rfl, narrow_nan (by decide +kernel) hr, rfl⟩
/-- The next greater number. -/
def nextF (x : Nat) : Nat := if nanB .f32 x then cnan .f32 else if x = 2139095040 then x else if rungAt single x = 0 then 1 else if negOf single x then x - 1 else x + 1
theorem nextF_lt {x : Nat} (hx : x < 4294967296) : nextF x < 4294967296 := by
  unfold nextF
  split
  · decide
  split
  · omega
  split
  · omega
  split
  · omega
  · rename_i h1 h2 h3 h4
    have hn : negOf single x = false := by simpa using h4
    have : x < 2147483648 := by
      by_cases hl : x < 2147483648
      · exact hl
      · have : negOf single x = true := by
          unfold negOf; rw [single_sign]
          have : x / 2147483648 = 1 := by omega
          rw [this]; rfl
        rw [this] at hn; cases hn
    omega
/-- The test for a positive number. -/
theorem pos_test {x : Nat} (h : nanB .f32 x = false) (h0 : rungAt single x ≠ 0) : (FloatKind.f32.format.order x 0 == some .gt) = !negOf single x := by
  have n2 : nanB .f32 0 = false := by decide +kernel
  rw [order_eq, h, n2]
  simp only [Bool.or_self, Bool.false_eq_true, if_false]
  show (some (compare (keyOf single x) (keyOf single 0)) == some .gt) = _
  have k2 : keyOf single 0 = 0 := by decide +kernel
  rw [k2]
  unfold keyOf
  cases negOf single x
  · simp only [sgn, Bool.false_eq_true, if_false]; rw [cmp_gt (by omega)]; rfl
  · simp only [sgn, if_true]; rw [cmp_lt (by omega)]; rfl
/-- The test for the positive infinity. -/
theorem inf_test {x : Nat} (hx : x < 4294967296) (h : nanB .f32 x = false) : (FloatKind.f32.format.order x 2139095040 == some .eq) = decide (x = 2139095040) := by
  have n2 : nanB .f32 2139095040 = false := by decide +kernel
  by_cases e : x = 2139095040
  · subst e; rw [order_self, n2, decide_eq_true rfl]; rfl
  · rw [decide_eq_false e, order_eq, h, n2]
    simp only [Bool.or_self, Bool.false_eq_true, if_false]
    show (some (compare (keyOf single x) (keyOf single 2139095040)) == some .eq) = _
    have k2 : keyOf single 2139095040 = 2139095040 := by decide +kernel
    rw [k2]
    have hk : keyOf single x ≠ 2139095040 := by
      intro hk
      have w1 := word_of single (x := x) hx
      unfold keyOf at hk
      cases hn : negOf single x
      · rw [hn] at hk w1; simp only [sgn, Bool.false_eq_true, if_false] at hk
        have : rungAt single x = 2139095040 := by omega
        rw [this] at w1; exact e w1.symm
      · rw [hn] at hk; simp only [sgn, if_true] at hk; omega
    rcases Int.lt_trichotomy (keyOf single x) 2139095040 with l | l | l
    · rw [cmp_lt l]; rfl
    · exact absurd l hk
    · rw [cmp_gt l]; rfl

theorem neg_big {x : Nat} (hx : x < 4294967296) (h : negOf single x = true) : 2147483648 ≤ x := by
  unfold negOf at h; rw [single_sign] at h
  by_cases hl : x < 2147483648
  · rw [Nat.div_eq_of_lt hl] at h; simp at h
  · omega
theorem pos_small {x : Nat} (hx : x < 4294967296) (h : negOf single x = false) : x < 2147483648 := by
  by_cases hl : x < 2147483648
  · exact hl
  · unfold negOf at h; rw [single_sign] at h
    have : x / 2147483648 = 1 := by omega
    rw [this] at h; simp at h
theorem spec_l01Next (x : Nat) (hx : x < 4294967296) (w : World) : Calls Try.prog 72 #[.float .f32 x] w fun e w' => ∃ r n, e = .returned (.float .f32 r) ∧ Same .f32 r (nextF x) ∧ r < 4294967296 ∧ w' = w.drewN n := by
  have sx := order_self .f32 x
  cases nx : nanB .f32 x with
  | true =>
    rw [nx, if_pos rfl] at sx
    have hs : Same .f32 x (nextF x) := .inr ⟨nx, by unfold nextF; rw [nx, if_pos rfl]; exact cnan_nan _⟩
    clear nx
    go_enter Try.func72, Try.ntmps72
    go_wp2_with (first | (go_at_call 74; refine (spec_l01Bits _ hx _).mono ?_; rintro e w' ⟨rfl, rfl⟩))
    go_ret
    exact ⟨x, 0, rfl, hs, hx, rfl⟩
  | false =>
    rw [nx, if_neg (by decide)] at sx
    have hb : bitsOf x = x := by unfold bitsOf; rw [nx]; rfl
    by_cases hi : x = 2139095040
    · have hs : Same .f32 x (nextF x) := .inl (by unfold nextF; rw [nx, if_neg (by decide), if_pos hi])
      have hbi : ((x : Int) == 2139095040) = true := by rw [hi]; rfl
      clear nx hi
      go_enter Try.func72, Try.ntmps72
      go_wp2_with (first | (go_at_call 74; refine (spec_l01Bits _ hx _).mono ?_; rintro e w' ⟨rfl, rfl⟩))
      go_ret
      exact ⟨x, 0, rfl, hs, hx, rfl⟩
    · have hbi : ((x : Int) == 2139095040) = false := by rw [beq_eq_false_iff_ne]; omega
      have z := zero_test nx
      by_cases h0 : rungAt single x = 0
      · rw [decide_eq_true h0] at z
        have hs : Same .f32 1 (nextF x) := .inl (by unfold nextF; rw [nx, if_neg (by decide), if_neg hi, if_pos h0])
        clear nx hi h0
        go_enter Try.func72, Try.ntmps72
        go_wp2_with (first | (go_at_call 74; refine (spec_l01Bits _ hx _).mono ?_; rintro e w' ⟨rfl, rfl⟩) | (go_at_call 69; go_in))
        go_ret
        exact ⟨1, 0, rfl, hs, by decide, rfl⟩
      · rw [decide_eq_false h0] at z
        have pt := pos_test nx h0
        cases hn : negOf single x with
        | true =>
          rw [hn] at pt
          have hs : Same .f32 (x - 1) (nextF x) := .inl (by unfold nextF; rw [nx, if_neg (by decide), if_neg hi, if_neg h0, hn, if_pos rfl])
          have hbig := neg_big hx hn
          clear nx hi h0 hn
          go_enter Try.func72, Try.ntmps72
          go_wp2_with (first | (go_at_call 74; refine (spec_l01Bits _ hx _).mono ?_; rintro e w' ⟨rfl, rfl⟩) | (go_at_call 69; go_in))
          go_ret
          exact ⟨_, 0, rfl, hs, by omega, rfl⟩
        | false =>
          rw [hn] at pt
          have hs : Same .f32 (x + 1) (nextF x) := .inl (by unfold nextF; rw [nx, if_neg (by decide), if_neg hi, if_neg h0, hn, if_neg (by decide)])
          have hsm := pos_small hx hn
          clear nx hi h0 hn
          go_enter Try.func72, Try.ntmps72
          go_wp2_with (first | (go_at_call 74; refine (spec_l01Bits _ hx _).mono ?_; rintro e w' ⟨rfl, rfl⟩) | (go_at_call 69; go_in))
          go_ret
          exact ⟨_, 0, rfl, hs, by omega, rfl⟩
theorem impl_NextUp (x : Nat) (hx : x < 4294967296) (w : World) : Calls Try.prog 36 #[.float .f32 x] w fun e w' => ∃ r n, e = .returned (.float .f32 r) ∧ Same .f32 r (nextF x) ∧ w' = w.drewN n := by
  have sx := order_self .f32 x
  cases nx : nanB .f32 x with
  | true =>
    rw [nx, if_pos rfl] at sx
    have hs : nanB .f32 (nextF x) = true := by unfold nextF; rw [nx, if_pos rfl]; exact cnan_nan _
    have HS := Lib.hid hs
    clear nx hs
    go_enter Try.func36, Try.ntmps36
    go_wp2_with (first | (go_at_call 63; refine (impl_noNumber _).mono ?_; rintro e w' ⟨r, n, rfl, hr, rfl⟩))
    go_ret
    exact ⟨_, _, rfl, .inr ⟨by assumption, HS.out⟩, rfl⟩
  | false =>
    rw [nx, if_neg (by decide)] at sx
    have it := inf_test hx nx
    by_cases hi : x = 2139095040
    · have hs : Same .f32 x (nextF x) := .inl (by unfold nextF; rw [nx, if_neg (by decide), if_pos hi])
      rw [decide_eq_true hi] at it
      clear nx hi
      go_enter Try.func36, Try.ntmps36
      go_wp2_with (first | (go_at_call 79; refine (impl_infinity _).mono ?_; rintro e w' ⟨rfl, n, rfl⟩))
      go_ret
      exact ⟨x, _, rfl, hs, rfl⟩
    · rw [decide_eq_false hi] at it
      have z := zero_test nx
      by_cases h0 : rungAt single x = 0
      · rw [decide_eq_true h0] at z
        have hs : Same .f32 1 (nextF x) := .inl (by unfold nextF; rw [nx, if_neg (by decide), if_neg hi, if_pos h0])
        clear nx hi h0
        go_enter Try.func36, Try.ntmps36
        go_wp2_with (first | (go_at_call 79; refine (impl_infinity _).mono ?_; rintro e w' ⟨rfl, n, rfl⟩))
        go_ret
        exact ⟨1, _, rfl, hs, rfl⟩
      · rw [decide_eq_false h0] at z
        have pt := pos_test nx h0
        cases hn : negOf single x with
        | true =>
          rw [hn] at pt
          have hs : Same .f32 (x - 1) (nextF x) := .inl (by unfold nextF; rw [nx, if_neg (by decide), if_neg hi, if_neg h0, hn, if_pos rfl])
          have hbig := neg_big hx hn
          clear nx hi h0 hn
          go_enter Try.func36, Try.ntmps36
          go_wp2_with (first | (go_at_call 79; refine (impl_infinity _).mono ?_; rintro e w' ⟨rfl, n, rfl⟩))
          go_ret
          exact ⟨_, _, rfl, hs, rfl⟩
        | false =>
          rw [hn] at pt
          have hs : Same .f32 (x + 1) (nextF x) := .inl (by unfold nextF; rw [nx, if_neg (by decide), if_neg hi, if_neg h0, hn, if_neg (by decide)])
          have hsm := pos_small hx hn
          clear nx hi h0 hn
          go_enter Try.func36, Try.ntmps36
          go_wp2_with (first | (go_at_call 79; refine (impl_infinity _).mono ?_; rintro e w' ⟨rfl, n, rfl⟩))
          go_ret
          exact ⟨_, _, rfl, hs, rfl⟩
/-! ### The opposite -/
theorem negFloat32 (x : Nat) : Op.negFloat .f32 x = x ^^^ 2 ^ 31 := rfl
theorem rung_neg (x : Nat) : rungAt single (Op.negFloat .f32 x) = rungAt single x := by
  rw [negFloat32]; unfold rungAt
  show (x ^^^ 2 ^ 31) % 2 ^ 31 = x % 2 ^ 31
  rw [Nat.xor_mod_two_pow]; simp
theorem nan_neg (x : Nat) : nanB .f32 (Op.negFloat .f32 x) = nanB .f32 x := by
  rw [nanB_eq, nanB_eq]
  have := rung_neg x
  unfold rungAt at this
  show decide (_ < _ % single.signWeight) = decide (_ < x % single.signWeight)
  rw [this]
theorem neg_lt {x : Nat} (h : x < 4294967296) : Op.negFloat .f32 x < 4294967296 := by
  rw [negFloat32]; exact Nat.xor_lt_two_pow (n := 32) h (by decide)
theorem neg_same {x y : Nat} (h : Same .f32 x y) : Same .f32 (Op.negFloat .f32 x) (Op.negFloat .f32 y) := by
  rcases h with rfl | ⟨h1, h2⟩
  · exact .inl rfl
  · exact .inr ⟨by rw [nan_neg]; exact h1, by rw [nan_neg]; exact h2⟩
theorem neg_sign {x : Nat} (h : x < 4294967296) : negOf single (Op.negFloat .f32 x) = !negOf single x := by
  rw [negFloat32]; unfold negOf; rw [single_sign]
  show ((x ^^^ 2 ^ 31) / 2 ^ 31 % 2 == 1) = !(x / 2 ^ 31 % 2 == 1)
  rw [← Nat.shiftRight_eq_div_pow, Nat.shiftRight_xor_distrib, Nat.shiftRight_eq_div_pow, Nat.shiftRight_eq_div_pow]
  have : ∀ d : Nat, d < 2 → ((d ^^^ 1) % 2 == 1) = !(d % 2 == 1) := by
    intro d hd
    have : d = 0 ∨ d = 1 := by omega
    rcases this with rfl | rfl <;> rfl
  have e : 2 ^ 31 / 2 ^ 31 = 1 := rfl
  rw [e]
  exact this _ (by omega)
theorem neg_neg {x : Nat} : Op.negFloat .f32 (Op.negFloat .f32 x) = x := by
  rw [negFloat32, negFloat32, Nat.xor_assoc, Nat.xor_self, Nat.xor_zero]

theorem math_Copysign0 (x : Nat) (hx : x < 18446744073709551616) (w : World) : Calls Try.prog 83 #[.float .f64 0, .float .f64 x] w fun e w' => e = .returned (.float .f64 (if negOf double x then 9223372036854775808 else 0)) ∧ w = w' := by
  have key : (bits BinOp.or IntKind.u64 (bits BinOp.andNot IntKind.u64 0 9223372036854775808) (bits BinOp.and IntKind.u64 (x : Int) 9223372036854775808)).toNat = if negOf double x then 9223372036854775808 else 0 := by
    have h1 : bits BinOp.andNot IntKind.u64 0 9223372036854775808 = 0 := by decide +kernel
    have h2 := u64_and_nat x 9223372036854775808 hx (by omega)
    have h3 : x &&& 9223372036854775808 = x / 9223372036854775808 % 2 * 9223372036854775808 := nat_bit 63 x
    rw [h3] at h2
    have h4 : bits BinOp.and IntKind.u64 (x : Int) 9223372036854775808 = ((x / 9223372036854775808 % 2 * 9223372036854775808 : Nat) : Int) := h2
    rw [h1, h4]
    unfold negOf; rw [double_sign]
    have d : x / 9223372036854775808 = 0 ∨ x / 9223372036854775808 = 1 := by omega
    rcases d with d | d <;> rw [d] <;> decide +kernel
  rw [← key]
  clear key
  go_enter Try.func83, Try.ntmps83
  go_wp2_with fail
  go_ret
  exact ⟨rfl, rfl⟩
/-- A number, but a zero of its sign if it is subnormal (or zero). -/
def flushF (x : Nat) : Nat := if rungAt single x < 8388608 then x / 2147483648 % 2 * 2147483648 else x
theorem impl_FlushNumber (x : Nat) (hx : x < 4294967296) (w : World) : Calls Try.prog 45 #[.float .f32 x] w fun e w' => e = .returned (.float .f32 (flushF x)) ∧ ∃ n, w' = w.drewN n := by
  cases hs : subB x with
  | false =>
    have e : flushF x = x := by
      unfold flushF
      by_cases h : rungAt single x < 8388608
      · rw [if_pos h]
        have h0 : rungAt single x = 0 := by
          unfold subB at hs; rw [decide_eq_false_iff_not] at hs; omega
        unfold rungAt at h0; rw [single_sign] at h0
        omega
      · rw [if_neg h]
    rw [e]; clear e
    go_enter Try.func45, Try.ntmps45
    go_wp2_with (first | (go_at_call 46; refine (impl_IsSubnormal _ _).mono ?_; rintro e w' ⟨rfl, n, rfl⟩))
    go_ret
    exact ⟨rfl, _, rfl⟩
  | true =>
    have h : 0 < rungAt single x ∧ rungAt single x < 8388608 := by unfold subB at hs; exact of_decide_eq_true hs
    have hn : nanB .f32 x = false := nanB_of_rung (k := .f32) (by show rungAt single x ≤ single.infRung; rw [single_inf]; omega)
    have ng := neg_cv hn
    have c1 := cval_num hn
    have c2 := ccnt_num hn
    cases hg : negOf single x with
    | true =>
      have e : flushF x = 2147483648 := by
        unfold flushF; rw [if_pos h.2]
        have := neg_big hx hg
        have : x / 2147483648 = 1 := by omega
        rw [this]
      rw [hg] at ng
      rw [e]; clear e h hn hg
      go_enter Try.func45, Try.ntmps45
      go_wp2_with (first | (refine wpList_narrow some64 Try.underlying23 rfl rfl rfl ?_; intro _ _ _) | (go_at_call 46; refine (impl_IsSubnormal _ _).mono ?_; rintro e w' ⟨rfl, n, rfl⟩) | (go_at_call 83; refine (math_Copysign0 _ (cv_lt _) _).mono ?_; rintro e w' ⟨rfl, rfl⟩))
      go_ret
      rename_i r n hr
      exact ⟨ret_float (narrow_some (by decide +kernel) hr), _, rfl⟩
    | false =>
      have e : flushF x = 0 := by
        unfold flushF; rw [if_pos h.2]
        have := pos_small hx hg
        have : x / 2147483648 = 0 := by omega
        rw [this]
      rw [hg] at ng
      rw [e]; clear e h hn hg
      go_enter Try.func45, Try.ntmps45
      go_wp2_with (first | (refine wpList_narrow some64 Try.underlying23 rfl rfl rfl ?_; intro _ _ _) | (go_at_call 46; refine (impl_IsSubnormal _ _).mono ?_; rintro e w' ⟨rfl, n, rfl⟩) | (go_at_call 83; refine (math_Copysign0 _ (cv_lt _) _).mono ?_; rintro e w' ⟨rfl, rfl⟩))
      go_ret
      rename_i r n hr
      exact ⟨ret_float (narrow_some (by decide +kernel) hr), _, rfl⟩
end Go.Proofs.Ytcmmafkmfahijaa
