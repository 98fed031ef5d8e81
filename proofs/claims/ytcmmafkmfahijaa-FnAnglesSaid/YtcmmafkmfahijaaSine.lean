/- Contracts of SineTurns. Conditions: the bits are those of a 32-bit number. -/
import Derived.Test.YtcmmafkmfahijaaSinePlain
import Derived.Test.YtcmmafkmfahijaaRoot
import Derived.Test.YtcmmafkmfahijaaStep
import Derived.LoopTactic
namespace Go.Proofs.Ytcmmafkmfahijaa
open Go.RowKit
open Ieee (single double)

def one64 : Nat := 4607182418800017408
/-- The divisors of the series. -/
def dq (k : Nat) : Nat := 2 * k * (2 * k + 1)
def dens (k : Nat) : Nat := floatOfInt .f64 (dq k : Int)
/-- The series behind some rounds. -/
def ser (u : Nat) : Nat → Nat
  | 0 => 4607182418800017408
  | i + 1 => fop .sub .f64 4607182418800017408 (fop .quo .f64 (fop .mul .f64 u (ser u i)) (dens (8 - i)))

theorem lo_of {x : Nat} (h : (decide (1025 * 4503599627370496 ≤ rungAt double x) && decide (rungAt double x < 9218868437227405312)) = true) : Lo 1025 x := by
  rw [Bool.and_eq_true, decide_eq_true_eq, decide_eq_true_eq] at h; exact h
theorem lo_dens : ∀ i, i < 8 → Lo 1025 (dens (8 - i)) := by
  intro i hi
  have key : ∀ i, i < 8 → (decide (1025 * 4503599627370496 ≤ rungAt double (dens (8 - i))) && decide (rungAt double (dens (8 - i)) < 9218868437227405312)) = true := by decide +kernel
  exact lo_of (key i hi)
theorem bd_one : Bd 1023 4607182418800017408 := by unfold Bd; decide +kernel
theorem bd_half : Bd 1023 4602678819172646912 := by unfold Bd; decide +kernel
theorem bd_tau : Bd 1026 4618760256179416344 := by unfold Bd; decide +kernel

theorem ser_bd {u : Nat} (hu : Bd 1035 u) : ∀ i, i ≤ 8 → Bd (1023 + 12 * i) (ser u i) := by
  intro i
  induction i with
  | zero => intro _; exact bd_mono bd_one (by omega)
  | succ i ih =>
    intro hi
    have h1 := bd_mul (a := 1035) (b := 1023 + 12 * i) (c := 1035 + 12 * i) (by omega) (by omega) (by omega) (by omega) (by omega) (by omega) (by omega) hu (ih (by omega))
    have h2 := bd_quo (a := 1035 + 12 * i) (b := 1025) (c := 1034 + 12 * i) (by omega) (by omega) (by omega) (by omega) (by omega) (by omega) h1 (lo_dens i (by omega))
    have h3 := bd_sub (k := 1034 + 12 * i) (by omega) (by omega) (bd_mono bd_one (by omega)) h2
    exact bd_mono h3 (by omega)
theorem ser_nums {u : Nat} (hu : Bd 1035 u) {i : Nat} (hi : i < 8) : nanB .f64 (fop .mul .f64 u (ser u i)) = false ∧ nanB .f64 (fop .quo .f64 (fop .mul .f64 u (ser u i)) (dens (8 - i))) = false ∧ nanB .f64 (ser u (i + 1)) = false := by
  have h1 := bd_mul (a := 1035) (b := 1023 + 12 * i) (c := 1035 + 12 * i) (by omega) (by omega) (by omega) (by omega) (by omega) (by omega) (by omega) hu (ser_bd hu i (by omega))
  have h2 := bd_quo (a := 1035 + 12 * i) (b := 1025) (c := 1034 + 12 * i) (by omega) (by omega) (by omega) (by omega) (by omega) (by omega) h1 (lo_dens i hi)
  exact ⟨bd_not_nan (by omega) h1, bd_not_nan (by omega) h2, bd_not_nan (by omega) (ser_bd hu (i + 1) (by omega))⟩

/-- The counter of the program's loop, as a number, and what it makes of it. -/
def kf (k : Nat) : Nat := floatOfInt .f64 (k : Int)
theorem kf_facts : ∀ k, k < 8 → fop .mul .f64 4611686018427387904 (kf (k + 1)) = kf (2 * (k + 1)) ∧ fop .add .f64 (kf (2 * (k + 1))) 4607182418800017408 = kf (2 * (k + 1) + 1) ∧ fop .mul .f64 (kf (2 * (k + 1))) (kf (2 * (k + 1) + 1)) = dens (k + 1) ∧
    fop .sub .f64 (kf (k + 1)) 4607182418800017408 = kf k ∧ nanB .f64 (kf k) = false ∧ nanB .f64 (kf (2 * (k + 1))) = false ∧ nanB .f64 (kf (2 * (k + 1) + 1)) = false ∧ nanB .f64 (dens (k + 1)) = false ∧
    (FloatKind.f64.format.order (kf (k + 1)) 4607182418800017408 == some .gt || FloatKind.f64.format.order (kf (k + 1)) 4607182418800017408 == some .eq) = true := by decide +kernel
theorem kf_zero : (FloatKind.f64.format.order (kf 0) 4607182418800017408 == some .gt || FloatKind.f64.format.order (kf 0) 4607182418800017408 == some .eq) = false := by decide +kernel
theorem kf_eight : kf 8 = 4620693217682128896 := by decide +kernel

end Go.Proofs.Ytcmmafkmfahijaa
