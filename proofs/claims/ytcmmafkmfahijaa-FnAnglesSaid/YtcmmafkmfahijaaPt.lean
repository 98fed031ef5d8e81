/- A point in sixteenths, its angle and what the sine leads back to: plain and quick. Conditions: none. -/
import Derived.Test.YtcmmafkmfahijaaFang
import Derived.Test.YtcmmafkmfahijaaRoot
import Derived.Test.YtcmmafkmfahijaaInt
namespace Go.Proofs.Ytcmmafkmfahijaa
open Ieee

/-- A sixteenth. -/
def q16 (k : Int) : Nat := fop .quo .f32 (K single k) 1098907648
def gapW (u v : Nat) : Nat := if (FloatKind.f64.format.order u v == some .lt) = true then fop .sub .f64 v u else fop .sub .f64 u v
def pR (Y X : Nat) : Nat := rootF (ad (ad (mu X X) (mu Y Y)) (mu 0 0))
def pQ (a : Nat) : Nat := ad a 1048576000
def pS (a R : Nat) : Nat := fop .mul .f64 (cv (sineF a)) (cv R)
def n32 (x : Nat) : Bool := Nat.ble (x % 2147483648) 2139095040
def n64 (x : Nat) : Bool := Nat.ble (x % 9223372036854775808) 9218868437227405312
theorem n32_eq (x : Nat) : n32 x = Bool.not (nanB .f32 x) := by
  unfold n32
  rw [ble_iff, nan32]
  by_cases h : x % 2147483648 ≤ 2139095040
  · rw [decide_eq_true h, decide_eq_false (by omega)]; rfl
  · rw [decide_eq_false h, decide_eq_true (by omega)]; rfl
theorem n64_eq (x : Nat) : n64 x = Bool.not (nanB .f64 x) := by
  unfold n64
  rw [ble_iff, nan64]
  by_cases h : x % 9223372036854775808 ≤ 9218868437227405312
  · rw [decide_eq_true h, decide_eq_false (by omega)]; rfl
  · rw [decide_eq_false h, decide_eq_true (by omega)]; rfl
/-- How two 32-bit words stand to each other. -/
def for32 (x y : Nat) : Option Ordering := bif n32 x && n32 y then some (compare (keyOf single x) (keyOf single y)) else none
theorem for32_eq (x y : Nat) : FloatKind.f32.format.order x y = for32 x y := by
  unfold for32
  rw [order_eq, n32_eq, n32_eq]
  cases nanB .f32 x <;> cases nanB .f32 y <;> rfl
/-- All that is asked of a point: the angle a, the opposite point's angle b. -/
def askP (Y a b R a2 sa sc s c gs gc : Nat) : Bool :=
  n32 a && n32 b && n32 R && n32 a2 && n32 sa && n32 sc && n64 s && n64 c && n64 gs && n64 gc &&
  (for32 a 3204448256 == some .gt || for32 a 3204448256 == some .eq) && Bool.not (for32 a 1056964608 == some .gt) &&
  Bool.not (fcmp gs 4547007122018943789 == some .gt) && Bool.not (fcmp gc 4547007122018943789 == some .gt) && ((for32 Y 0 == some .eq) || (for32 a (Op.negFloat .f32 b) == some .eq))
def ptB (Y X : Nat) : Bool := askP Y (angF Y X) (angF (Op.negFloat .f32 Y) X) (pR Y X) (pQ (angF Y X)) (sineF (angF Y X)) (sineF (pQ (angF Y X)))
  (pS (angF Y X) (pR Y X)) (pS (pQ (angF Y X)) (pR Y X)) (gapW (pS (angF Y X) (pR Y X)) (cv Y)) (gapW (pS (pQ (angF Y X)) (pR Y X)) (cv X))
/-- The same, quickly. -/
def fgap (u v : Nat) : Nat := bif fcmp u v == some .lt then fsub v u else fsub u v
theorem fgap_eq (u v : Nat) : gapW u v = fgap u v := by unfold gapW fgap; rw [cond_if, fcmp_eq, fsub_eq, fsub_eq]
def fangW (y x : Nat) : Nat := force (y % 9223372036854775808) fun A => force (x % 9223372036854775808) fun B => force (fg2 A B (fneg0 x)) fun g => bif fneg0 y then Op.negFloat .f64 g else g
theorem rung64 (y : Nat) : rungAt double y = y % 9223372036854775808 := by unfold rungAt; rw [double_sign]
theorem fangW_eq (y x : Nat) : angW y x = fangW y x := by
  unfold angW fangW
  simp only [force_eq, cond_if, fneg0_eq, rung64, fg2_eq]
def fangF (y x : Nat) : Nat := bif finB y && finB x then (bif (for32 x 0 == some .eq) && (for32 y 0 == some .eq) then 0 else force (fcv y) fun yy => force (fcv x) fun xx => force (fangW yy xx) fun g => fnar g) else cnan .f32
theorem fangF_eq (y x : Nat) : angF y x = fangF y x := by
  unfold angF fangF
  simp only [force_eq, cond_if, fcv_eq, fangW_eq, fnar_eq, for32_eq]
def fsineF (x : Nat) : Nat := bif finB x then (force (fcv x) fun y => force (fsineW y) fun s => fnar s) else cnan .f32
theorem fsineF_eq (x : Nat) : sineF x = fsineF x := by
  unfold sineF fsineF
  simp only [force_eq, cond_if, fcv_eq, fsineW_eq, fnar_eq]
theorem mu_zero : mu 0 0 = 0 := by decide +kernel
def fR (Y X : Nat) : Nat := force (fmus X X) fun x2 => force (fmus Y Y) fun y2 => force (fads0 x2 y2) fun n => force (fads0 n 0) fun m => force (fcv m) fun w => force (fsqQ w) fun r => fnar r
theorem fR_eq (Y X : Nat) : pR Y X = fR Y X := by
  unfold pR fR rootF
  simp only [force_eq, ← fads0_eq, ← fmus_eq, mu_zero, fcv_eq, fsqQ_eq, fnar_eq]
def ptF (Y X : Nat) : Bool :=
  force (fangF Y X) fun a => force (fangF (Op.negFloat .f32 Y) X) fun b => force (fR Y X) fun R => force (fads a 1048576000) fun a2 => force (fsineF a) fun sa => force (fsineF a2) fun sc => force (fcv R) fun W =>
  force (fmul0 (fcv sa) W) fun s => force (fmul0 (fcv sc) W) fun c => force (fgap s (fcv Y)) fun gs => force (fgap c (fcv X)) fun gc => askP Y a b R a2 sa sc s c gs gc
theorem ptF_eq (Y X : Nat) : ptB Y X = ptF Y X := by
  unfold ptB ptF pS pQ
  simp only [force_eq, fangF_eq, fR_eq, fsineF_eq, fcv_eq, fmul0_eq, fgap_eq, ← fads_eq]
/-- Points of one row, from i on; the point of zeros is passed over. -/
def rowN : Nat → Nat → Nat → Bool
  | 0, _, _ => true
  | n + 1, i, j => bif (Nat.beq i 64 && Nat.beq j 64) then rowN n (i + 1) j else (force (q16 ((j : Int) - 64)) fun Y => force (q16 ((i : Int) - 64)) fun X => bif ptF Y X then rowN n (i + 1) j else false)
theorem rowN_at : ∀ n i j k, rowN n i j = true → i ≤ k → k < i + n → ¬ (k = 64 ∧ j = 64) → ptB (q16 ((j : Int) - 64)) (q16 ((k : Int) - 64)) = true
  | 0, i, j, k, _, h1, h2, _ => by omega
  | n + 1, i, j, k, h, h1, h2, h3 => by
    unfold rowN at h
    simp only [force_eq] at h
    by_cases e : k = i
    · subst e
      cases hz : (Nat.beq k 64 && Nat.beq j 64) with
      | true =>
        rw [Bool.and_eq_true] at hz
        exact absurd ⟨Nat.eq_of_beq_eq_true hz.1, Nat.eq_of_beq_eq_true hz.2⟩ h3
      | false =>
        rw [hz, cond_false] at h
        cases hp : ptF (q16 ((j : Int) - 64)) (q16 ((k : Int) - 64)) with
        | true => rw [ptF_eq]; exact hp
        | false => rw [hp, cond_false] at h; cases h
    · have hr : rowN n (i + 1) j = true := by
        cases hz : (Nat.beq i 64 && Nat.beq j 64) with
        | true => rw [hz, cond_true] at h; exact h
        | false =>
          rw [hz, cond_false] at h
          cases hp : ptF (q16 ((j : Int) - 64)) (q16 ((i : Int) - 64)) with
          | true => rw [hp, cond_true] at h; exact h
          | false => rw [hp, cond_false] at h; cases h
      exact rowN_at n (i + 1) j k hr (by omega) (by omega) h3
end Go.Proofs.Ytcmmafkmfahijaa
