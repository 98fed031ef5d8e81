/- Plain facts on the bits of 32-bit and 64-bit numbers: which are not-a-numbers, when two bits are the same number, and that the four operations and the two conversions respect this. Conditions: none. -/
import Derived.Laws.FloatArith
import Derived.Deep.Draws
namespace Go.Proofs.Ytcmmafkmfahijaa
open Ieee

/-- The bits are those of a not-a-number. -/
def nanB (k : FloatKind) (x : Nat) : Bool := (k.format.read x).isNaN

/-- The same number: equal bits, or two not-a-numbers. -/
def Same (k : FloatKind) (x y : Nat) : Prop := x = y ∨ (nanB k x = true ∧ nanB k y = true)

theorem Same.refl (k : FloatKind) (x : Nat) : Same k x x := .inl rfl
theorem Same.symm {k : FloatKind} {x y : Nat} (h : Same k x y) : Same k y x := by
  rcases h with h | ⟨h1, h2⟩
  · exact .inl h.symm
  · exact .inr ⟨h2, h1⟩
theorem Same.trans {k : FloatKind} {x y z : Nat} (h : Same k x y) (g : Same k y z) : Same k x z := by
  rcases h with h | ⟨h1, h2⟩
  · subst h; exact g
  · rcases g with g | ⟨g1, g2⟩
    · subst g; exact .inr ⟨h1, h2⟩
    · exact .inr ⟨h1, g2⟩
theorem Same.nan_iff {k : FloatKind} {x y : Nat} (h : Same k x y) : nanB k x = nanB k y := by
  rcases h with h | ⟨h1, h2⟩
  · rw [h]
  · rw [h1, h2]

theorem sum_nan_left {a b : Datum} (h : a.isNaN = true) : a.sum b = none := by
  cases a <;> simp [Datum.isNaN] at h
  rfl
theorem sum_nan_right {a b : Datum} (h : b.isNaN = true) : a.sum b = none := by
  cases b <;> simp [Datum.isNaN] at h
  cases a <;> rfl
theorem product_nan_left {a b : Datum} (h : a.isNaN = true) : a.product b = none := by
  cases a <;> simp [Datum.isNaN] at h
  rfl
theorem product_nan_right {a b : Datum} (h : b.isNaN = true) : a.product b = none := by
  cases b <;> simp [Datum.isNaN] at h
  cases a <;> rfl
theorem quotient_nan_left {d : Nat} {a b : Datum} (h : a.isNaN = true) : a.quotient d b = none := by
  cases a <;> simp [Datum.isNaN] at h
  rfl
theorem quotient_nan_right {d : Nat} {a b : Datum} (h : b.isNaN = true) : a.quotient d b = none := by
  cases b <;> simp [Datum.isNaN] at h
  cases a <;> rfl
theorem opposite_nan {a : Datum} (h : a.isNaN = true) : a.opposite.isNaN = true := by
  cases a <;> simp [Datum.isNaN] at h
  rfl

theorem floatBits_nan_left {op : BinOp} {k : FloatKind} {x y : Nat} (h : nanB k x = true) : floatBits op k x y = none := by
  unfold nanB at h
  cases op <;> simp only [floatBits, Format.add, Format.sub, Format.mul, Format.div, sum_nan_left h, product_nan_left h, quotient_nan_left h, Option.map_none]
theorem floatBits_nan_right {op : BinOp} {k : FloatKind} {x y : Nat} (h : nanB k y = true) : floatBits op k x y = none := by
  unfold nanB at h
  cases op <;> simp only [floatBits, Format.add, Format.sub, Format.mul, Format.div, sum_nan_right h, sum_nan_right (opposite_nan h), product_nan_right h, quotient_nan_right h, Option.map_none]

/-- One not-a-number of each kind. -/
def cnan : FloatKind → Nat
  | .f32 => 0x7fc00000
  | .f64 => 0x7ff8000000000001
theorem cnan_nan (k : FloatKind) : nanB k (cnan k) = true := by cases k <;> decide +kernel

/-- An operation as a plain function: one not-a-number stands for all. -/
def fop (op : BinOp) (k : FloatKind) (x y : Nat) : Nat := (floatBits op k x y).getD (cnan k)

theorem binade_le_infRung (f : Format) (h : 1 ≤ f.exponentBits) : f.binade ≤ f.infRung := by
  unfold Format.infRung
  have h1 : 2 ^ 1 ≤ 2 ^ f.exponentBits := Nat.pow_le_pow_right (by omega) h
  exact Nat.le_mul_of_pos_left _ (by omega)

theorem nanB_eq (k : FloatKind) (x : Nat) : nanB k x = decide (k.format.infRung < x % k.format.signWeight) := by
  have h0 := binade_le_infRung k.format (by cases k <;> decide)
  unfold nanB Format.read
  dsimp only
  split
  · rename_i h; simp only [Datum.isNaN]; rw [eq_comm, decide_eq_false_iff_not]; omega
  · split
    · rename_i h; simp only [Datum.isNaN]; rw [eq_comm, decide_eq_false_iff_not]; omega
    · split
      · rename_i h; simp only [Datum.isNaN]; rw [eq_comm, decide_eq_false_iff_not]; omega
      · rename_i h; simp only [Datum.isNaN]; rw [eq_comm, decide_eq_true_eq]; omega

theorem nan32 (x : Nat) : nanB .f32 x = decide (2139095040 < x % 2147483648) := nanB_eq .f32 x
theorem nan64 (x : Nat) : nanB .f64 x = decide (9218868437227405312 < x % 9223372036854775808) := nanB_eq .f64 x

theorem cut_nan (k : FloatKind) (x y t : Nat) : nanB k ((Question.nanBits k x y).cut t) = true := by
  cases k
  · rw [nan32, decide_eq_true_eq]; simp only [Question.cut]; rcases Nat.mod_two_eq_zero_or_one t with h | h <;> rw [h] <;> omega
  · rw [nan64, decide_eq_true_eq]; simp only [Question.cut]; rcases Nat.mod_two_eq_zero_or_one t with h | h <;> rw [h] <;> omega
theorem cut_nanConv (k : FloatKind) (x t : Nat) : nanB k ((Question.nanConv k x).cut t) = true := by
  cases k
  · rw [nan32, decide_eq_true_eq]; simp only [Question.cut]; rcases Nat.mod_two_eq_zero_or_one t with h | h <;> rw [h] <;> omega
  · rw [nan64, decide_eq_true_eq]; simp only [Question.cut]; rcases Nat.mod_two_eq_zero_or_one t with h | h <;> rw [h] <;> omega

/-- What an operation gives in a world: its bits, or a not-a-number that the tape chooses. -/
def fval (op : BinOp) (k : FloatKind) (x y : Nat) (w : World) : Nat := (floatBits op k x y).getD ((Question.nanBits k x y).cut (w.tape w.drawn (.nanBits k x y)))
/-- How often it asks the tape. -/
def fcnt (op : BinOp) (k : FloatKind) (x y : Nat) : Nat := if (floatBits op k x y).isSome then 0 else 1

theorem fval_same (op : BinOp) {k : FloatKind} {x x' y y' : Nat} (w : World) (hx : Same k x x') (hy : Same k y y') : Same k (fval op k x y w) (fop op k x' y') := by
  have both : floatBits op k x y = none → floatBits op k x' y' = none → Same k (fval op k x y w) (fop op k x' y') := fun h1 h2 => by
    unfold fval fop
    rw [h1, h2]
    exact .inr ⟨cut_nan .., cnan_nan k⟩
  rcases hx with rfl | ⟨h1, h2⟩
  · rcases hy with rfl | ⟨g1, g2⟩
    · cases h : floatBits op k x y with
      | none => exact both h h
      | some r => unfold fval fop; rw [h]; exact .inl rfl
    · exact both (floatBits_nan_right g1) (floatBits_nan_right g2)
  · exact both (floatBits_nan_left h1) (floatBits_nan_left h2)

theorem fop_same (op : BinOp) {k : FloatKind} {x x' y y' : Nat} (hx : Same k x x') (hy : Same k y y') : Same k (fop op k x y) (fop op k x' y') := by
  have both : floatBits op k x y = none → floatBits op k x' y' = none → Same k (fop op k x y) (fop op k x' y') := fun h1 h2 => by
    unfold fop
    rw [h1, h2]
    exact .inl rfl
  rcases hx with rfl | ⟨h1, h2⟩
  · rcases hy with rfl | ⟨g1, g2⟩
    · exact .inl rfl
    · exact both (floatBits_nan_right g1) (floatBits_nan_right g2)
  · exact both (floatBits_nan_left h1) (floatBits_nan_left h2)

theorem Same.step {op : BinOp} {k : FloatKind} {r u v x y : Nat} (h : Same k r (fop op k u v)) (hx : Same k u x) (hy : Same k v y) : Same k r (fop op k x y) := h.trans (fop_same op hx hy)

/-- What a conversion gives in a world. -/
def cval (s : FloatKind) (b : Nat) (k : FloatKind) (w : World) : Nat :=
  (floatToFloatBits s b k).getD (if nanB s b then (Question.nanConv k b).cut (w.tape w.drawn (.nanConv k b)) else (Question.floatToFloat b).cut (w.tape w.drawn (.floatToFloat b)))
def ccnt (s : FloatKind) (b : Nat) (k : FloatKind) : Nat := if (floatToFloatBits s b k).isSome then 0 else 1
@[simp, go_sem] theorem cval_self (k : FloatKind) (b : Nat) (w : World) : cval k b k w = b := by simp [cval, floatToFloatBits]
@[simp, go_sem] theorem ccnt_self (k : FloatKind) (b : Nat) : ccnt k b k = 0 := by simp [ccnt, floatToFloatBits]
@[simp, go_sem] theorem drewN_nothing (w : World) : w.drewN 0 = w := rfl

section
variable {P : Program} (w : World)
theorem run_fop (op : BinOp) (hop : op = .add ∨ op = .sub ∨ op = .mul ∨ op = .quo) (t : TypeId) (k : FloatKind) (x y : Nat) :
    (binOp op t (.float k x) (.float k y)).run P w = .ok (.float k (fval op k x y w)) (w.drewN (fcnt op k x y)) := by
  cases h : floatBits op k x y with
  | some r => rw [run_float_arith w op t k x y r h]; simp [fval, fcnt, h]
  | none =>
    rcases hop with rfl | rfl | rfl | rfl <;> simp only [floatBits] at h <;> simp [binOp, Op.floatArith, h, fval, fcnt, floatBits, Question.forced] <;> rfl
@[go_sem] theorem run_fadd (t : TypeId) (k : FloatKind) (x y : Nat) : (binOp .add t (.float k x) (.float k y)).run P w = .ok (.float k (fval .add k x y w)) (w.drewN (fcnt .add k x y)) := run_fop w .add (by simp) t k x y
@[go_sem] theorem run_fsub (t : TypeId) (k : FloatKind) (x y : Nat) : (binOp .sub t (.float k x) (.float k y)).run P w = .ok (.float k (fval .sub k x y w)) (w.drewN (fcnt .sub k x y)) := run_fop w .sub (by simp) t k x y
@[go_sem] theorem run_fmul (t : TypeId) (k : FloatKind) (x y : Nat) : (binOp .mul t (.float k x) (.float k y)).run P w = .ok (.float k (fval .mul k x y w)) (w.drewN (fcnt .mul k x y)) := run_fop w .mul (by simp) t k x y
@[go_sem] theorem run_fquo (t : TypeId) (k : FloatKind) (x y : Nat) : (binOp .quo t (.float k x) (.float k y)).run P w = .ok (.float k (fval .quo k x y w)) (w.drewN (fcnt .quo k x y)) := run_fop w .quo (by simp) t k x y

@[go_sem] theorem run_fconv (src dst : TypeId) (s k : FloatKind) (b : Nat) (hs : (P.underlying src).isSome = true) (hd : P.underlying dst = some (.float k)) :
    (convert src dst (.float s b)).run P w = .ok (.float k (cval s b k w)) (w.drewN (ccnt s b k)) := by
  cases h : floatToFloatBits s b k with
  | some r => rw [run_convert_float_float w src dst s k b r hs hd h]; simp [cval, ccnt, h]
  | none =>
    obtain ⟨u, hs'⟩ := Option.isSome_iff_exists.1 hs
    have h' := h
    unfold floatToFloatBits at h'
    split at h'
    · cases h'
    · rename_i ne
      split at h'
      · rename_i sg fr he
        have hn : nanB s b = true := by unfold nanB; unfold FloatKind.decode at he; rw [he]; rfl
        cases u <;> simp [convert, run_underlying hs', run_underlying hd, Conv.floatToFloat, ne, he, cval, ccnt, h, hn, Question.forced] <;> rfl
      · cases h'
      · rename_i sg m e he
        have hn : nanB s b = false := by unfold nanB; unfold FloatKind.decode at he; rw [he]; rfl
        split at h'
        · rename_i ho
          cases u <;> simp [convert, run_underlying hs', run_underlying hd, Conv.floatToFloat, ne, he, ho, cval, ccnt, h, hn, Question.forced] <;> rfl
        · cases h'
end
end Go.Proofs.Ytcmmafkmfahijaa
