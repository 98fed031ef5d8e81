/- How the laws' arguments are opened: floats and vectors. Conditions: none. -/
import Derived.Test.YtcmmafkmfahijaaVec
import Derived.ProofKit
import Derived.OpenShut
import Derived.Lib.SmallJoins
namespace Go.Proofs.Ytcmmafkmfahijaa
open Go.ChangeShapes Go.WideShapes Go.RowKit Go.Joins

theorem wf32 {a : Nat} (h : (Lit.float .f32 a).wf = true) : a < 4294967296 := by simpa [Lit.wf] using h
theorem wf64 {a : Nat} (h : (Lit.float .f64 a).wf = true) : a < 18446744073709551616 := by simpa [Lit.wf] using h

section
variable {H : Type} {enc : TypeId × Value → H} {P : Program} {w : World} {base : Nat} {spare : Nat → Bool} {held : Bool}
theorem trod_float {t : TypeId} {k : FloatKind} {fuel : Nat} {cs : List Value} {x : DataW H × List MemPlace} (ht : P.underlying t = some (.float k)) (h : DataW.trod enc P w base spare held fuel t cs = some x) :
    ∃ b, cs = [.float k b] ∧ x = (.lit (.float k b), []) ∧ (Lit.float k b).wf = true := by
  cases fuel with
  | zero => simp [DataW.trod] at h
  | succ n =>
    unfold DataW.trod at h
    rw [ht] at h
    split at h <;> simp_all
end

theorem opened_V {H : Type} {enc : TypeId × Value → H} {W : World} {b0 base : Nat} {spare : Nat → Bool} {held : Bool} {v : Value} {d : DataW H} {p : List MemPlace}
    (hv : Value.okWide Try.prog W .any b0 51 v) (h : DataW.Trod enc Try.prog W base spare held 51 v d p) :
    ∃ x y z, v = vecV x y z ∧ x < 4294967296 ∧ y < 4294967296 ∧ z < 4294967296 := by
  obtain ⟨v0, v1, v2, y0, y1, y2, m, rfl, rfl, rfl, h0, h1, h2⟩ := open_agg3 Try.underlying51 (by kernel_rfl) (by kernel_rfl) hv h
  obtain ⟨a, e0, _, wa⟩ := trod_float Try.underlying23 h0
  obtain ⟨b, e1, _, wb⟩ := trod_float Try.underlying23 h1
  obtain ⟨c, e2, _, wc⟩ := trod_float Try.underlying23 h2
  simp only [List.cons.injEq, and_true] at e0 e1 e2
  subst e0 e1 e2
  exact ⟨a, b, c, rfl, wf32 wa, wf32 wb, wf32 wc⟩
end Go.Proofs.Ytcmmafkmfahijaa
