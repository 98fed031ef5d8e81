/- Contracts of the small functions on single numbers. Conditions: none. -/
import Derived.Test.YtcmmafkmfahijaaWalk
import Derived.Test.YtcmmafkmfahijaaBits
namespace Go.Proofs.Ytcmmafkmfahijaa
open Go.RowKit

theorem ret_bool {a b : Bool} (h : a = b) : Ending.returned (.bool a) = .returned (.bool b) := by rw [h]
theorem ret_int {k : IntKind} {a b : Int} (h : a = b) : Ending.returned (.int k a) = .returned (.int k b) := by rw [h]
theorem ret_float {k : FloatKind} {a b : Nat} (h : a = b) : Ending.returned (.float k a) = .returned (.float k b) := by rw [h]

theorem impl_IsFinite (x : Nat) (w : World) : Calls Try.prog 35 #[.float .f32 x] w fun e w' => e = .returned (.bool (finB x)) ∧ ∃ n, w' = w.drewN n := by
  go_enter Try.func35, Try.ntmps35
  go_wp2_with ((refine wpList_fop rfl rfl rfl rfl rfl ?_; intro _ _ _))
  go_ret
  rename_i r n hr
  rw [← finB_eq hr]
  exact ⟨rfl, _, rfl⟩
theorem spec_l01Finite (x : Nat) (w : World) : Calls Try.prog 73 #[.float .f32 x] w fun e w' => e = .returned (.bool (finB x)) ∧ ∃ n, w' = w.drewN n := by
  go_enter Try.func73, Try.ntmps73
  go_wp2_with ((refine wpList_fop rfl rfl rfl rfl rfl ?_; intro _ _ _))
  go_ret
  rename_i r n hr
  rw [← finB_eq hr]
  exact ⟨rfl, _, rfl⟩
/-- Two 64-bit numbers that are the same: the law's own test says so. -/
theorem sameFloat_true (a b : Nat) (h : Same .f64 a b) (w : World) : Calls Try.prog 17 #[.float .f64 a, .float .f64 b] w fun e w' => e = .returned (.bool true) ∧ ∃ n, w' = w.drewN n := by
  have sa := order_self .f64 a
  have sb := order_self .f64 b
  have hn := h.nan_iff
  cases ha : nanB .f64 a with
  | true =>
    have hb : nanB .f64 b = true := by rw [← hn, ha]
    rw [ha, if_pos rfl] at sa
    rw [hb, if_pos rfl] at sb
    clear ha hb hn h
    go_enter Try.func17, Try.ntmps17
    go_wp2_with ((refine wpList_fop rfl rfl rfl rfl rfl ?_; intro _ _ _))
    all_goals (go_ret; exact ⟨rfl, 0, rfl⟩)
  | false =>
    have e : a = b := by
      rcases h with h | ⟨h1, _⟩
      · exact h
      · rw [ha] at h1; cases h1
    subst e
    rw [ha, if_neg (by decide)] at sa
    clear ha hn h sb
    by_cases hz : (FloatKind.f64.format.order a 0 == some .eq) = true
    · go_enter Try.func17, Try.ntmps17
      go_wp2_with ((refine wpList_fop rfl rfl rfl rfl rfl ?_; intro _ _ _))
      go_ret
      rename_i r1 n1 h1 r2 n2 h2
      have e : FloatKind.f64.format.order r1 0 = FloatKind.f64.format.order r2 0 := (order_same h1 (Same.refl _ 0)).trans (order_same h2 (Same.refl _ 0)).symm
      exact ⟨ret_bool (by rw [e]; simp), _, rfl⟩
    · have hz' : (FloatKind.f64.format.order a 0 == some .eq) = false := by simpa using hz
      clear hz
      go_enter Try.func17, Try.ntmps17
      go_wp2_with ((refine wpList_fop rfl rfl rfl rfl rfl ?_; intro _ _ _))
      go_ret
      exact ⟨rfl, 0, rfl⟩
/-- The bits of a number, 2143289344 for a not-a-number. -/
def bitsOf (x : Nat) : Int := if nanB .f32 x then 2143289344 else x
theorem spec_l01Bits (x : Nat) (hx : x < 4294967296) (w : World) : Calls Try.prog 74 #[.float .f32 x] w fun e w' => e = .returned (.int .i64 (bitsOf x)) ∧ w = w' := by
  have sa := order_self .f32 x
  cases ha : nanB .f32 x with
  | true =>
    rw [ha, if_pos rfl] at sa
    have hb : bitsOf x = 2143289344 := by unfold bitsOf; rw [ha]; rfl
    rw [hb]; clear ha hb
    go_enter Try.func74, Try.ntmps74
    go_wp2_with fail
    go_ret
    exact ⟨rfl, rfl⟩
  | false =>
    rw [ha, if_neg (by decide)] at sa
    have hb : bitsOf x = x := by unfold bitsOf; rw [ha]; rfl
    rw [hb]; clear ha hb
    go_enter Try.func74, Try.ntmps74
    go_wp2_with fail
    go_ret
    exact ⟨rfl, rfl⟩
theorem impl_BitsOf (x : Nat) (hx : x < 4294967296) (w : World) : Calls Try.prog 32 #[.float .f32 x] w fun e w' => e = .returned (.int .i64 (bitsOf x)) ∧ w = w' := by
  have sa := order_self .f32 x
  cases ha : nanB .f32 x with
  | true =>
    rw [ha, if_pos rfl] at sa
    have hb : bitsOf x = 2143289344 := by unfold bitsOf; rw [ha]; rfl
    rw [hb]; clear ha hb
    go_enter Try.func32, Try.ntmps32
    go_wp2_with fail
    go_ret
    exact ⟨rfl, rfl⟩
  | false =>
    rw [ha, if_neg (by decide)] at sa
    have hb : bitsOf x = x := by unfold bitsOf; rw [ha]; rfl
    rw [hb]; clear ha hb
    go_enter Try.func32, Try.ntmps32
    go_wp2_with fail
    go_ret
    exact ⟨rfl, rfl⟩
theorem math_Signbit (x : Nat) (hx : x < 18446744073709551616) (w : World) : Calls Try.prog 78 #[.float .f64 x] w fun e w' => e = .returned (.bool (negOf Ieee.double x)) ∧ w = w' := by
  rw [← sign_test x hx]
  go_enter Try.func78, Try.ntmps78
  go_wp2_with fail
  go_ret
  exact ⟨rfl, rfl⟩
theorem math_Abs (x : Nat) (hx : x < 18446744073709551616) (w : World) : Calls Try.prog 64 #[.float .f64 x] w fun e w' => e = .returned (.float .f64 (rungAt Ieee.double x)) ∧ w = w' := by
  rw [← abs_bits x hx]
  go_enter Try.func64, Try.ntmps64
  go_wp2_with fail
  go_ret
  exact ⟨rfl, rfl⟩

theorem cval_num {x : Nat} (h : nanB .f32 x = false) (w : World) : cval .f32 x .f64 w = cv x := by
  have : floatToFloatBits .f32 x .f64 = some (cv x) := by
    rcases cases32 x with g | ⟨_, g⟩ | ⟨_, g⟩
    · rw [h] at g; cases g
    · obtain ⟨r, e, _⟩ := wide_finite g
      unfold cv; rw [e]; rfl
    · unfold cv; rw [wide_inf g]; rfl
  unfold cval; rw [this]; rfl
theorem ccnt_num {x : Nat} (h : nanB .f32 x = false) : ccnt .f32 x .f64 = 0 := by
  unfold ccnt
  rcases cases32 x with g | ⟨_, g⟩ | ⟨_, g⟩
  · rw [h] at g; cases g
  · obtain ⟨r, e, _⟩ := wide_finite g
    rw [e]; rfl
  · rw [wide_inf g]; rfl
theorem cv_lt (x : Nat) : cv x < 18446744073709551616 := by
  rcases cases32 x with g | ⟨_, g⟩ | ⟨_, g⟩
  · rw [cv_nan g]; decide
  · exact (cv_finite g).2.2.2
  · rw [cv_inf g]; exact Ieee.Format.word_lt Ieee.double _ (by decide)
theorem neg_cv {x : Nat} (h : nanB .f32 x = false) : negOf Ieee.double (cv x) = negOf Ieee.single x := by
  rcases cases32 x with g | ⟨_, g⟩ | ⟨_, g⟩
  · rw [h] at g; cases g
  · exact (cv_finite g).1
  · rw [cv_inf g]; exact negOf_word _ _ (by decide)

/-- Two 32-bit numbers are the same. -/
def sameB (x y : Nat) : Bool := bitsOf x == bitsOf y
theorem sameB_both {x y : Nat} (hx : nanB .f32 x = true) (hy : nanB .f32 y = true) : sameB x y = true := by unfold sameB bitsOf; rw [hx, hy]; rfl
theorem sameB_none {x y : Nat} (h : nanB .f32 x = false) (h' : nanB .f32 y = false) : sameB x y = (x == y) := by
  unfold sameB bitsOf; rw [h, h', if_neg (by decide), if_neg (by decide)]
  by_cases e : x = y
  · subst e; simp
  · have : ¬ ((x : Int) = y) := by omega
    rw [beq_eq_false_iff_ne.2 e]
    exact beq_eq_false_iff_ne.2 this
theorem nan_canon : nanB .f32 2143289344 = true := cnan_nan .f32
theorem sameB_left {x y : Nat} (hx : nanB .f32 x = true) (hy : nanB .f32 y = false) : sameB x y = false := by
  unfold sameB bitsOf; rw [hx, hy, if_pos rfl, if_neg (by decide)]
  have : ¬ ((2143289344 : Int) = (y : Int)) := fun e => by
    obtain rfl : y = 2143289344 := by omega
    rw [nan_canon] at hy; cases hy
  simpa using this
theorem sameB_right {x y : Nat} (hx : nanB .f32 x = false) (hy : nanB .f32 y = true) : sameB x y = false := by
  unfold sameB bitsOf; rw [hx, hy, if_pos rfl, if_neg (by decide)]
  have : ¬ ((x : Int) = (2143289344 : Int)) := fun e => by
    obtain rfl : x = 2143289344 := by omega
    rw [nan_canon] at hx; cases hx
  simpa using this

theorem spec_l01Same (x y : Nat) (hx : x < 4294967296) (hy : y < 4294967296) (w : World) : Calls Try.prog 71 #[.float .f32 x, .float .f32 y] w fun e w' => e = .returned (.bool (sameB x y)) ∧ w = w' := by
  go_enter Try.func71, Try.ntmps71
  go_wp2_with (first | (go_at_call 74; refine (spec_l01Bits _ (by assumption) _).mono ?_; rintro e w' ⟨rfl, rfl⟩))
  go_ret
  exact ⟨rfl, rfl⟩
theorem impl_SameNumber (x y : Nat) (hx : x < 4294967296) (hy : y < 4294967296) (w : World) : Calls Try.prog 34 #[.float .f32 x, .float .f32 y] w fun e w' => e = .returned (.bool (sameB x y)) ∧ w = w' := by
  have sx := order_self .f32 x
  have sy := order_self .f32 y
  cases nx : nanB .f32 x with
  | true =>
    rw [nx, if_pos rfl] at sx
    cases ny : nanB .f32 y with
    | true =>
      rw [ny, if_pos rfl] at sy
      rw [sameB_both nx ny]
      clear nx ny
      go_enter Try.func34, Try.ntmps34
      go_wp2_with fail
      go_ret
      exact ⟨rfl, rfl⟩
    | false =>
      rw [ny, if_neg (by decide)] at sy
      rw [sameB_left nx ny]
      clear nx ny
      go_enter Try.func34, Try.ntmps34
      go_wp2_with fail
      go_ret
      exact ⟨rfl, rfl⟩
  | false =>
    rw [nx, if_neg (by decide)] at sx
    cases ny : nanB .f32 y with
    | true =>
      rw [ny, if_pos rfl] at sy
      rw [sameB_right nx ny]
      clear nx ny
      go_enter Try.func34, Try.ntmps34
      go_wp2_with fail
      go_ret
      exact ⟨rfl, rfl⟩
    | false =>
      rw [ny, if_neg (by decide)] at sy
      have hs := same_word hx hy nx ny
      have cx := cval_num nx
      have cy := cval_num ny
      have kx := ccnt_num nx
      have ky := ccnt_num ny
      rw [sameB_none nx ny, ← hs, ← neg_cv nx, ← neg_cv ny]
      clear hs
      by_cases he : (FloatKind.f32.format.order x y == some .eq) = true
      · rw [he, Bool.true_and]
        clear nx ny
        go_enter Try.func34, Try.ntmps34
        go_wp2_with (first | (go_at_call 78; refine (math_Signbit _ (cv_lt _) _).mono ?_; rintro e w' ⟨rfl, rfl⟩))
        go_ret
        exact ⟨rfl, rfl⟩
      · have he' : (FloatKind.f32.format.order x y == some .eq) = false := by simpa using he
        rw [he', Bool.false_and]
        clear nx ny he
        go_enter Try.func34, Try.ntmps34
        go_wp2_with fail
        go_ret
        exact ⟨rfl, rfl⟩
end Go.Proofs.Ytcmmafkmfahijaa
