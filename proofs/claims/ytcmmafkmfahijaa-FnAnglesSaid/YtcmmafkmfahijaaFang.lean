/- The angle and the sine, reckoned quickly: equal to the plain functions. Conditions: none. -/
import Derived.Test.YtcmmafkmfahijaaFast
import Derived.Test.YtcmmafkmfahijaaAngBoth
import Derived.Test.YtcmmafkmfahijaaSineBoth
namespace Go.Proofs.Ytcmmafkmfahijaa
open Ieee

def fone : Nat := 4607182418800017408
def fT (a b : Nat) : Nat := bif Nat.blt b a then fquo b a else fquo a b
def fstep (T : Nat) : Nat := force (fmul0 T T) fun q => force (fadd 4607182418800017408 q) fun r => force (fsqQ r) fun s => force (fadd 4607182418800017408 s) fun d => fquo T d
def ftst (t : Nat) : Nat → Nat
  | 0 => t
  | i + 1 => force (ftst t i) fstep
theorem ftst_eq (t : Nat) : ∀ i, tst t i = ftst t i
  | 0 => rfl
  | i + 1 => by
    show fop .quo .f64 (tst t i) (fop .add .f64 4607182418800017408 (fsq (fop .add .f64 4607182418800017408 (fop .mul .f64 (tst t i) (tst t i))))) = force (ftst t i) fstep
    rw [force_eq, ftst_eq t i]
    unfold fstep
    simp only [force_eq, fmul0_eq, fadd_eq, fsqQ_eq, fquo_eq]
/-- The series' coefficients. -/
def ainv : Nat → Nat
  | 0 => 4589468260265693457
  | 1 => 4590207312512236308
  | 2 => 4591215111030249286
  | 3 => 4592670820000712476
  | 4 => 4594314991293244562
  | 5 => 4596373779694328218
  | 6 => 4599676419421066581
  | _ => 4607182418800017408
theorem ainv_fin : ∀ i : Fin 8, fop .quo .f64 4607182418800017408 (kfI (15 - 2 * ((i.val : Nat) : Int))) = ainv i.val := by decide +kernel
def faser (u : Nat) : Nat → Nat
  | 0 => 0
  | i + 1 => force (faser u i) fun p => force (fmul0 u p) fun q => fsub (ainv i) q
theorem faser_eq (u : Nat) : ∀ i, i ≤ 8 → aser u i = faser u i
  | 0, _ => rfl
  | i + 1, h => by
    have e := ainv_fin ⟨i, by omega⟩
    show fop .sub .f64 (fop .quo .f64 4607182418800017408 (kfI (15 - 2 * (i : Int)))) (fop .mul .f64 u (aser u i)) = force (faser u i) _
    rw [show fop .quo .f64 4607182418800017408 (kfI (15 - 2 * (i : Int))) = ainv i from e, faser_eq u i (by omega)]
    simp only [force_eq, fmul0_eq, fsub_eq]
def fg1 (a b : Nat) : Nat := force (fT a b) fun t0 => force (ftst t0 3) fun t => force (fmul0 t t) fun u => force (faser u 8) fun p => force (fmul0 t p) fun P => force (fmul0 4620693217682128896 P) fun E => force (fquo E 4618760256179416344) fun g => bif Nat.blt b a then fsub 4598175219545276416 g else g
theorem blt_if {α : Type} (a b : Nat) (x y : α) : (if decide (b < a) = true then x else y) = bif Nat.blt b a then x else y := by
  rw [blt_iff]
  by_cases h : b < a
  · rw [decide_eq_true h, if_pos rfl, cond_true]
  · rw [decide_eq_false h, if_neg (by decide), cond_false]
theorem fg1_eq (a b : Nat) : g1 a b = fg1 a b := by
  unfold fg1 g1 g0 gE gP gU gT fT
  simp only [force_eq, blt_if, fmul0_eq, fsub_eq, fquo_eq, ftst_eq, faser_eq _ 8 (Nat.le_refl _)]
def fg2 (a b : Nat) (bx : Bool) : Nat := bif bx then force (fg1 a b) fun g => fsub 4602678819172646912 g else fg1 a b
theorem fg2_eq (a b : Nat) (bx : Bool) : g2 a b bx = fg2 a b bx := by
  unfold fg2 g2
  cases bx
  · rw [if_neg (by decide), cond_false]; exact fg1_eq a b
  · rw [if_pos rfl, cond_true, force_eq, fsub_eq, fg1_eq]
theorem K64_zero : floatOfInt .f64 0 = 0 := by decide +kernel
/-- The sine's divisors. -/
def dtab : Nat → Nat
  | 0 => 4643492690795692032
  | 1 => 4641592734702895104
  | 2 => 4639692778610098176
  | 3 => 4637440978796412928
  | 4 => 4634766966517661696
  | 5 => 4631107791820423168
  | 6 => 4626322717216342016
  | _ => 4618441417868443648
theorem dtab_fin : ∀ i : Fin 8, dens (8 - i.val) = dtab i.val := by decide +kernel
def fser (u : Nat) : Nat → Nat
  | 0 => 4607182418800017408
  | i + 1 => force (fser u i) fun p => force (fmul0 u p) fun q => force (fquo q (dtab i)) fun r => fsub 4607182418800017408 r
theorem fser_eq (u : Nat) : ∀ i, i ≤ 8 → ser u i = fser u i
  | 0, _ => rfl
  | i + 1, h => by
    have e := dtab_fin ⟨i, by omega⟩
    show fop .sub .f64 4607182418800017408 (fop .quo .f64 (fop .mul .f64 u (ser u i)) (dens (8 - i))) = force (fser u i) _
    rw [show dens (8 - i) = dtab i from e, fser_eq u i (by omega)]
    simp only [force_eq, fmul0_eq, fsub_eq, fquo_eq]
/-- A number below 1 has no whole part. -/
def ftr (y : Nat) : Nat := bif Nat.blt (exf y) 1023 then 0 else floatOfInt .f64 (truncI y)
theorem ftr_eq (y : Nat) : floatOfInt .f64 (truncI y) = ftr y := by
  unfold ftr
  rw [blt_iff]
  by_cases h : exf y < 1023
  · rw [decide_eq_true h, cond_true]
    have hr : rungAt double y < 1023 * double.binade := by
      show y % double.signWeight < _
      rw [double_sign, double_binade]
      unfold exf at h; omega
    have hu := unit1_eq
    have hv : rv double (rungAt double y) < 2 ^ unit1 := by
      have h1 := rv_lt double hr
      rw [rv_pow double (by omega)] at h1
      have h2 : double.fractionBits + 1023 - 1 = unit1 := by rw [hu]; rfl
      rw [h2] at h1
      exact h1
    have ht : truncI y = 0 := by
      unfold truncI
      rw [Nat.div_eq_of_lt hv]
      cases negOf double y <;> rfl
    rw [ht]; exact K64_zero
  · rw [decide_eq_false h, cond_false]
/-- Below zero, of a word of middling size; and against a positive constant. -/
def fneg0 (x : Nat) : Bool := bif mid x then ngf x else (FloatKind.f64.format.order x 0 == some .lt)
theorem key_mid {x : Nat} (h : mid x = true) : nanB .f64 x = false ∧ keyOf double x = (if ngf x = true then -((x % 9223372036854775808 : Nat) : Int) else ((x % 9223372036854775808 : Nat) : Int)) ∧ 0 < x % 9223372036854775808 := by
  obtain ⟨h1, h2, h3⟩ := mid_facts h
  have hr : rungAt double x = x % 9223372036854775808 := by unfold rungAt; rw [double_sign]
  refine ⟨nanB_of_rung (k := .f64) (by show rungAt double x ≤ double.infRung; rw [hr, double_inf]; unfold exf at h2; omega), ?_, by unfold exf at h1; omega⟩
  unfold keyOf
  rw [hr]
  have hn : negOf double x = ngf x := by
    unfold negOf ngf
    rw [double_sign, ble_iff]
    by_cases c : 9223372036854775808 ≤ x
    · rw [decide_eq_true c]
      have : x / 9223372036854775808 = 1 := by omega
      rw [this]; rfl
    · rw [decide_eq_false c]
      have : x / 9223372036854775808 = 0 := by omega
      rw [this]; rfl
  rw [hn]
  unfold sgn
  rfl
theorem key_zero : keyOf double 0 = 0 := by decide +kernel
theorem nan_zero64 : nanB .f64 0 = false := by decide +kernel
theorem fneg0_eq (x : Nat) : (FloatKind.f64.format.order x 0 == some .lt) = fneg0 x := by
  unfold fneg0
  cases h : mid x with
  | false => rfl
  | true =>
    rw [cond_true]
    obtain ⟨k1, k2, k3⟩ := key_mid h
    rw [order_eq, k1, nan_zero64]
    rw [if_neg (by decide)]
    show (some (compare (keyOf double x) (keyOf double 0)) == some .lt) = _
    rw [k2, key_zero]
    cases hn : ngf x with
    | true => rw [if_pos rfl, cmp_lt (by omega)]; rfl
    | false => rw [if_neg (by decide), cmp_gt (by omega)]; rfl
/-- How two positive words stand to each other. -/
def fcmp (x y : Nat) : Option Ordering := bif (mid x && Bool.not (ngf x)) && (mid y && Bool.not (ngf y)) then (bif Nat.blt x y then some .lt else bif Nat.beq x y then some .eq else some .gt) else FloatKind.f64.format.order x y
theorem fcmp_eq (x y : Nat) : FloatKind.f64.format.order x y = fcmp x y := by
  unfold fcmp
  cases h : (mid x && Bool.not (ngf x)) && (mid y && Bool.not (ngf y)) with
  | false => rfl
  | true =>
    rw [cond_true]
    simp only [Bool.and_eq_true, Bool.not_eq_true'] at h
    obtain ⟨⟨mx, nx⟩, my, ny⟩ := h
    obtain ⟨k1, k2, _⟩ := key_mid mx
    obtain ⟨l1, l2, _⟩ := key_mid my
    have hx : x % 9223372036854775808 = x := by
      have := nx; unfold ngf at this; rw [ble_iff, decide_eq_false_iff_not] at this; omega
    have hy : y % 9223372036854775808 = y := by
      have := ny; unfold ngf at this; rw [ble_iff, decide_eq_false_iff_not] at this; omega
    rw [order_eq, k1, l1]
    rw [if_neg (by decide)]
    show some (compare (keyOf double x) (keyOf double y)) = _
    rw [k2, l2, nx, ny, if_neg (by decide), if_neg (by decide), hx, hy, blt_iff]
    by_cases c : x < y
    · rw [decide_eq_true c, cond_true, cmp_lt (by omega)]
    · rw [decide_eq_false c, cond_false]
      by_cases e : x = y
      · subst e; rw [cmp_eq rfl, Nat.beq_refl, cond_true]
      · have : Nat.beq x y = false := by
          cases q : Nat.beq x y with
          | true => exact absurd (Nat.eq_of_beq_eq_true q) e
          | false => rfl
        rw [this, cond_false, cmp_gt (by omega)]
def fbelow (s : Nat) : Bool := (fcmp s 4602678819172646912 == some .gt || fcmp s 4602678819172646912 == some .eq)
def fsineW (y : Nat) : Nat :=
  force (fsub y (ftr y)) fun a0 => force (bif fneg0 a0 then fadd a0 4607182418800017408 else a0) fun a1 =>
  bif Nat.ble 4841369599423283200 (y % 9223372036854775808) then 0 else
  bif fbelow a1 then
    force (fsub a1 4602678819172646912) fun a2 => force (bif fcmp a2 4598175219545276416 == some .gt then fsub 4602678819172646912 a2 else a2) fun a3 => force (fmul0 a3 4618760256179416344) fun z => force (fmul0 z z) fun u => force (fser u 8) fun p => force (fmul0 z p) fun o => Op.negFloat .f64 o
  else
    force (bif fcmp a1 4598175219545276416 == some .gt then fsub 4602678819172646912 a1 else a1) fun a3 => force (fmul0 a3 4618760256179416344) fun z => force (fmul0 z z) fun u => force (fser u 8) fun p => fmul0 z p
theorem cond_if {α : Type} (b : Bool) (x y : α) : (if b = true then x else y) = bif b then x else y := by cases b <;> rfl
theorem fsineW_eq (y : Nat) : sineW y = fsineW y := by
  have hb : below y = fbelow (s1 y) := by unfold below fbelow; rw [fcmp_eq]
  have h1 : s1 y = bif fneg0 (s0 y) then fadd (s0 y) 4607182418800017408 else s0 y := by unfold s1; rw [fneg0_eq, cond_if, fadd_eq]
  have h0 : s0 y = fsub y (ftr y) := by unfold s0; rw [ftr_eq, fsub_eq]
  unfold fsineW sineW so su sz s3 s2
  rw [hb]
  simp only [force_eq, cond_if, fmul0_eq, fsub_eq, fcmp_eq, fser_eq _ 8 (Nat.le_refl _)]
  rw [← h0, ← h1]
  have hr : (4841369599423283200 ≤ rungAt double y) = (4841369599423283200 ≤ y % 9223372036854775808) := by unfold rungAt; rw [double_sign]
  by_cases c : 4841369599423283200 ≤ y % 9223372036854775808
  · rw [if_pos (by rw [hr]; exact c), ble_iff, decide_eq_true c, cond_true]
  · rw [if_neg (by rw [hr]; exact c), ble_iff, decide_eq_false c, cond_false]
    cases fbelow (s1 y) <;> rfl
end Go.Proofs.Ytcmmafkmfahijaa
