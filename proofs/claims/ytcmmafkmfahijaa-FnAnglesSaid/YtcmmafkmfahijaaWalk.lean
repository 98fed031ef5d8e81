/- Laws of the walk for floats: the four operations and the conversions, each with the result known up to the bits of a not-a-number; the library's functions that read and make bits. Conditions: none. -/
import Derived.Test.YtcmmafkmfahijaaChecked
import Derived.Test.YtcmmafkmfahijaaConv
import Derived.WalkKit
import Derived.WalkLawsBesides
import Derived.WalkSpells
import Derived.Laws.Externs
import Derived.Lib.Hide
import Derived.Outline
namespace Go.Proofs.Ytcmmafkmfahijaa
open Go.RowKit

@[go_sem] theorem run_store_float (P : Program) (w : World) (a : Addr) (m : Mode) (k : FloatKind) (b : Nat) : (store a (.float k b) m).run P w = stored P w a (.float k b) m := run_store P w a _ m rfl

@[go_sem] theorem run_neg_float (P : Program) (w : World) (k : FloatKind) (b : Nat) : (Op.unary .neg (.float k b)).run P w = .ok (.float k (Op.negFloat k b)) w := by simp [Op.unary]

def isArith : BinOp → Bool
  | .add | .sub | .mul | .quo => true
  | _ => false

section
variable {P : Program} {ops : Array Oper} {rest : List Oper} {o : Oper} {a : Act} {w : World} {Q : Exit → Act → World → Prop}

/-- AN OPERATION ON FLOATS: some bits r, the same number as the plain function's; some draws. -/
theorem wpList_fop {op : BinOp} {tx ty : TypeId} {x y : Operand} {k : FloatKind} {u v : Nat} (hg : o.guard = none) (ho : o.op = .binOp op tx x y ty) (hop : isArith op = true)
    (hx : a.eval x = .float k u) (hy : a.eval y = .float k v)
    (h : ∀ r n, Same k r (fop op k u v) → wpList P ops Q rest (a.put o.dst (.float k r)) (w.drewN n)) : wpList P ops Q (o :: rest) a w :=
  wpList_plain hg fun K hK => by
    have hop' : op = .add ∨ op = .sub ∨ op = .mul ∨ op = .quo := by cases op <;> simp_all [isArith]
    unfold Oper.wp execOp
    simp only [ho, hx, hy, eqGuard_at_float, Sem.run_bind, Sem.run_pure, Result.andThen_ok, run_fop w op hop', Oper.upon_value]
    exact hK _ _ (h _ _ (fval_same op w (Same.refl _ _) (Same.refl _ _)))

/-- The same where the result is known to be a number: just that; no draw. -/
theorem wpList_fopE {op : BinOp} {tx ty : TypeId} {x y : Operand} {k : FloatKind} {u v : Nat} (hg : o.guard = none) (ho : o.op = .binOp op tx x y ty) (hop : isArith op = true)
    (hx : a.eval x = .float k u) (hy : a.eval y = .float k v) (hn : nanB k (fop op k u v) = false)
    (h : wpList P ops Q rest (a.put o.dst (.float k (fop op k u v))) w) : wpList P ops Q (o :: rest) a w :=
  wpList_plain hg fun K hK => by
    have hop' : op = .add ∨ op = .sub ∨ op = .mul ∨ op = .quo := by cases op <;> simp_all [isArith]
    have hf : floatBits op k u v = some (fop op k u v) := by
      cases e : floatBits op k u v with
      | some r => unfold fop; rw [e]; rfl
      | none => unfold fop at hn; rw [e] at hn; rw [show (none : Option Nat).getD (cnan k) = cnan k from rfl, cnan_nan] at hn; cases hn
    unfold Oper.wp execOp
    simp only [ho, hx, hy, eqGuard_at_float, Sem.run_bind, Sem.run_pure, Result.andThen_ok, run_float_arith w op tx k u v _ hf, Oper.upon_value]
    exact hK _ _ h

/-- float64(x) of a 32-bit number. -/
theorem wpList_wide {src dst : TypeId} {x : Operand} {u : Nat} (hs : (P.underlying src).isSome = true) (hd : P.underlying dst = some (.float .f64)) (hg : o.guard = none) (ho : o.op = .convert src dst x)
    (hx : a.eval x = .float .f32 u)
    (h : ∀ r n, Same .f64 r (cv u) → wpList P ops Q rest (a.put o.dst (.float .f64 r)) (w.drewN n)) : wpList P ops Q (o :: rest) a w :=
  wpList_plain hg fun K hK => by
    unfold Oper.wp execOp
    simp only [ho, hx, Sem.run_bind, Sem.run_pure, Result.andThen_ok, run_fconv w src dst .f32 .f64 u hs hd, Oper.upon_value]
    exact hK _ _ (h _ _ (cval_wide w (Same.refl _ _)))

/-- What narrowing a 64-bit number gives: a not-a-number of one; the nearest 32-bit number, if that is none of the infinities. -/
def Narrow (u r : Nat) : Prop := (nanB .f64 u = true → nanB .f32 r = true) ∧ ∀ c, floatToFloatBits .f64 u .f32 = some c → r = c
theorem narrow_cval (u : Nat) (w : World) : Narrow u (cval .f64 u .f32 w) := by
  refine ⟨fun h => ?_, fun c hc => by unfold cval; rw [hc]; rfl⟩
  have : floatToFloatBits .f64 u .f32 = none := by
    unfold floatToFloatBits
    rw [if_neg (by decide)]
    have h' : (Ieee.double.read u).isNaN = true := h
    unfold FloatKind.decode
    show (match Ieee.double.read u with | .nan _ _ => none | .infinity s => some (FloatKind.f32.encode (.infinity s)) | .number s m e => if (FloatKind.f32.decode (FloatKind.f32.encode (.number s m e))).isInfinity then none else some (FloatKind.f32.encode (.number s m e))) = _
    generalize Ieee.double.read u = d at *
    cases d <;> simp [Ieee.Datum.isNaN] at h'
    rfl
  unfold cval
  rw [this, if_pos h, Option.getD_none]
  exact cut_nanConv .f32 u _
/-- float32(x) of a 64-bit number. -/
theorem wpList_narrow {src dst : TypeId} {x : Operand} {u : Nat} (hs : (P.underlying src).isSome = true) (hd : P.underlying dst = some (.float .f32)) (hg : o.guard = none) (ho : o.op = .convert src dst x)
    (hx : a.eval x = .float .f64 u)
    (h : ∀ r n, Narrow u r → wpList P ops Q rest (a.put o.dst (.float .f32 r)) (w.drewN n)) : wpList P ops Q (o :: rest) a w :=
  wpList_plain hg fun K hK => by
    unfold Oper.wp execOp
    simp only [ho, hx, Sem.run_bind, Sem.run_pure, Result.andThen_ok, run_fconv w src dst .f64 .f32 u hs hd, Oper.upon_value]
    exact hK _ _ (h _ _ (narrow_cval u w))
end

/-! ### The library's functions without a Go body -/
theorem some32 : (Try.prog.underlying 23).isSome = true := by rw [Try.underlying23]; rfl
theorem some64 : (Try.prog.underlying 28).isSome = true := by rw [Try.underlying28]; rfl
@[go_sem] theorem call_Float32bits (b : Nat) (w : World) : (callFunc 75 #[.float .f32 b]).run Try.prog w = .ok (.value (.int .u32 b)) w := by
  rw [run_callFunc_extern (e := Extern.MathFloatBits.float32bits) Try.func75 (by kernel_rfl) (by kernel_rfl) (by kernel_rfl) (by kernel_rfl)]; rfl
@[go_sem] theorem call_Float32frombits (n : Int) (w : World) : (callFunc 77 #[.int .u32 n]).run Try.prog w = .ok (.value (.float .f32 n.toNat)) w := by
  rw [run_callFunc_extern (e := Extern.MathFloatBits.float32frombits) Try.func77 (by kernel_rfl) (by kernel_rfl) (by kernel_rfl) (by kernel_rfl)]; rfl
@[go_sem] theorem call_Float64bits (b : Nat) (w : World) : (callFunc 104 #[.float .f64 b]).run Try.prog w = .ok (.value (.int .u64 b)) w := by
  rw [run_callFunc_extern (e := Extern.MathFloatBits.float64bits) Try.func104 (by kernel_rfl) (by kernel_rfl) (by kernel_rfl) (by kernel_rfl)]; rfl
@[go_sem] theorem call_Float64frombits (n : Int) (w : World) : (callFunc 103 #[.int .u64 n]).run Try.prog w = .ok (.value (.float .f64 n.toNat)) w := by
  rw [run_callFunc_extern (e := Extern.MathFloatBits.float64frombits) Try.func103 (by kernel_rfl) (by kernel_rfl) (by kernel_rfl) (by kernel_rfl)]; rfl
def fsq (x : Nat) : Nat := (Ieee.double.sqrt x).getD (cnan .f64)
def fsqv (x : Nat) (w : World) : Nat := (Ieee.double.sqrt x).getD ((Question.nanBits .f64 x x).cut (w.tape w.drawn (.nanBits .f64 x x)))
def fsqc (x : Nat) : Nat := if (Ieee.double.sqrt x).isSome then 0 else 1
theorem run_sqrt (P : Program) (x : Nat) (w : World) : (Extern.MathSqrt.sqrt #[.float .f64 x]).run P w = .ok (.float .f64 (fsqv x w)) (w.drewN (fsqc x)) := by
  change Sem.run P (match Ieee.double.sqrt x with | some r => (pure (Value.float .f64 r) : Sem Value) | none => do pure (Value.float .f64 (← choose (.nanBits .f64 x x)))) w = _
  unfold fsqv fsqc
  cases Ieee.double.sqrt x with
  | some r => simp
  | none => simp [Question.forced]; rfl
@[go_sem] theorem call_sqrt (x : Nat) (w : World) : (callFunc 105 #[.float .f64 x]).run Try.prog w = .ok (.value (.float .f64 (fsqv x w))) (w.drewN (fsqc x)) := by
  rw [run_callFunc_extern (e := Extern.MathSqrt.sqrt) Try.func105 (by kernel_rfl) (by kernel_rfl) (by kernel_rfl) (by kernel_rfl), run_sqrt]; rfl
end Go.Proofs.Ytcmmafkmfahijaa
