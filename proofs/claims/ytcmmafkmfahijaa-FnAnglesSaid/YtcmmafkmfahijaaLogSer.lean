/- Plain facts for the logarithm: the cut of a positive number, the counters, the series and its bounds. Conditions: as each fact says. -/
import Derived.Test.YtcmmafkmfahijaaLogPlain
namespace Go.Proofs.Ytcmmafkmfahijaa
open Ieee

/-- An integer as a 64-bit number. -/
def kfI (e : Int) : Nat := floatOfInt .f64 e
theorem kfI_up : ∀ n : Nat, n < 360 → fop .add .f64 (kfI ((n : Int) - 180)) 4607182418800017408 = kfI ((n : Int) - 179) := by decide +kernel
theorem kfI_down : ∀ n : Nat, n < 360 → fop .sub .f64 (kfI ((n : Int) - 179)) 4607182418800017408 = kfI ((n : Int) - 180) := by decide +kernel
theorem kfI_num : ∀ n : Nat, n < 362 → (nanB .f64 (kfI ((n : Int) - 180)) || !decide (rungAt double (kfI ((n : Int) - 180)) ≤ 1033 * 4503599627370496)) = false := by decide +kernel
theorem kfI_inc {e : Int} (h1 : -180 ≤ e) (h2 : e < 180) : fop .add .f64 (kfI e) 4607182418800017408 = kfI (e + 1) := by
  have := kfI_up (e + 180).toNat (by omega)
  rwa [show (((e + 180).toNat : Nat) : Int) - 180 = e by omega, show (((e + 180).toNat : Nat) : Int) - 179 = e + 1 by omega] at this
theorem kfI_dec {e : Int} (h1 : -180 < e) (h2 : e ≤ 180) : fop .sub .f64 (kfI e) 4607182418800017408 = kfI (e - 1) := by
  have := kfI_down (e + 179).toNat (by omega)
  rwa [show (((e + 179).toNat : Nat) : Int) - 180 = e - 1 by omega, show (((e + 179).toNat : Nat) : Int) - 179 = e by omega] at this
theorem kfI_ok {e : Int} (h1 : -180 ≤ e) (h2 : e ≤ 180) : nanB .f64 (kfI e) = false ∧ Bd 1033 (kfI e) := by
  have := kfI_num (e + 180).toNat (by omega)
  rw [show (((e + 180).toNat : Nat) : Int) - 180 = e by omega, Bool.or_eq_false_iff, Bool.not_eq_false', decide_eq_true_eq] at this
  exact this
theorem kfI_zero : kfI 0 = 0 := by decide +kernel

theorem pos_ge {y c : Nat} (hy : y < 9218868437227405312) (hc : c < 9218868437227405312) : (FloatKind.f64.format.order y c == some .gt || FloatKind.f64.format.order y c == some .eq) = decide (c ≤ y) := by
  have ry := pos_rung (y := y) (by omega)
  have rc := pos_rung (y := c) (by omega)
  rw [order_eq, nan_fin (y := y) (by rw [ry, double_inf]; exact hy), nan_fin (y := c) (by rw [rc, double_inf]; exact hc)]
  show (some (compare (keyOf double y) (keyOf double c)) == _ || some (compare (keyOf double y) (keyOf double c)) == _) = _
  rw [beq_gt]
  have ky : keyOf double y = y := by unfold keyOf; rw [ry, pos_sign (by omega)]; rfl
  have kc : keyOf double c = c := by unfold keyOf; rw [rc, pos_sign (by omega)]; rfl
  rw [ky, kc]; exact decide_eq_decide.2 Int.ofNat_le
theorem pos_lt {y c : Nat} (hy : y < 9218868437227405312) (hc : c < 9218868437227405312) : (FloatKind.f64.format.order y c == some .lt) = decide (y < c) := by
  have ry := pos_rung (y := y) (by omega)
  have rc := pos_rung (y := c) (by omega)
  rw [order_eq, nan_fin (y := y) (by rw [ry, double_inf]; exact hy), nan_fin (y := c) (by rw [rc, double_inf]; exact hc)]
  show (some (compare (keyOf double y) (keyOf double c)) == _) = _
  have ky : keyOf double y = y := by unfold keyOf; rw [ry, pos_sign (by omega)]; rfl
  have kc : keyOf double c = c := by unfold keyOf; rw [rc, pos_sign (by omega)]; rfl
  rw [ky, kc]
  rcases Int.lt_trichotomy (y : Int) c with h | h | h
  · rw [Int.compare_eq_lt.2 h, decide_eq_true (by omega)]; rfl
  · rw [Int.compare_eq_eq.2 h, decide_eq_false (by omega)]; rfl
  · rw [Int.compare_eq_gt.2 h, decide_eq_false (by omega)]; rfl
theorem pos_gt {y c : Nat} (hy : y < 9218868437227405312) (hc : c < 9218868437227405312) : (FloatKind.f64.format.order y c == some .gt) = decide (c < y) := by
  have ry := pos_rung (y := y) (by omega)
  have rc := pos_rung (y := c) (by omega)
  rw [order_eq, nan_fin (y := y) (by rw [ry, double_inf]; exact hy), nan_fin (y := c) (by rw [rc, double_inf]; exact hc)]
  show (some (compare (keyOf double y) (keyOf double c)) == _) = _
  have ky : keyOf double y = y := by unfold keyOf; rw [ry, pos_sign (by omega)]; rfl
  have kc : keyOf double c = c := by unfold keyOf; rw [rc, pos_sign (by omega)]; rfl
  rw [ky, kc]
  rcases Int.lt_trichotomy (y : Int) c with h | h | h
  · rw [Int.compare_eq_lt.2 h, decide_eq_false (by omega)]; rfl
  · rw [Int.compare_eq_eq.2 h, decide_eq_false (by omega)]; rfl
  · rw [Int.compare_eq_gt.2 h, decide_eq_true (by omega)]; rfl

/-- The series of the logarithm behind some rounds. -/
def lser (u : Nat) : Nat → Nat
  | 0 => 0
  | i + 1 => fop .add .f64 (fop .quo .f64 4607182418800017408 (kfI (25 - 2 * (i : Int)))) (fop .mul .f64 u (lser u i))
theorem rec_bd {i : Nat} (hi : i < 13) : Bd 1023 (fop .quo .f64 4607182418800017408 (kfI (25 - 2 * (i : Int)))) := by
  have key : ∀ i : Nat, i < 13 → decide (rungAt double (fop .quo .f64 4607182418800017408 (kfI (25 - 2 * (i : Int)))) ≤ 1023 * 4503599627370496) = true := by decide +kernel
  have := key i hi; unfold Bd; exact of_decide_eq_true this
theorem bd_zero (k : Nat) : Bd k 0 := by unfold Bd; rw [show rungAt double 0 = 0 from rfl]; exact Nat.zero_le _
theorem lser_bd {u : Nat} (hu : Bd 1029 u) : ∀ i, i ≤ 13 → Bd (1023 + 7 * i) (lser u i) := by
  intro i
  induction i with
  | zero => intro _; exact bd_zero _
  | succ i ih =>
    intro hi
    have h1 := bd_mul (a := 1029) (b := 1023 + 7 * i) (c := 1029 + 7 * i) (by omega) (by omega) (by omega) (by omega) (by omega) (by omega) (by omega) hu (ih (by omega))
    have h3 := bd_add (k := 1029 + 7 * i) (by omega) (by omega) (bd_mono (rec_bd (i := i) (by omega)) (by omega)) h1
    exact bd_mono h3 (by omega)
theorem lser_nums {u : Nat} (hu : Bd 1029 u) {i : Nat} (hi : i < 13) : nanB .f64 (fop .quo .f64 4607182418800017408 (kfI (25 - 2 * (i : Int)))) = false ∧ nanB .f64 (fop .mul .f64 u (lser u i)) = false ∧ nanB .f64 (lser u (i + 1)) = false := by
  have h1 := bd_mul (a := 1029) (b := 1023 + 7 * i) (c := 1029 + 7 * i) (by omega) (by omega) (by omega) (by omega) (by omega) (by omega) (by omega) hu (lser_bd hu i (by omega))
  exact ⟨bd_not_nan (by omega) (rec_bd hi), bd_not_nan (by omega) h1, bd_not_nan (by omega) (lser_bd hu (i + 1) (by omega))⟩

/-- The pieces of the logarithm, of the cut number z and the count e. -/
def lnum (z : Nat) : Nat := fop .sub .f64 z 4607182418800017408
def lden (z : Nat) : Nat := fop .add .f64 z 4607182418800017408
def lS (z : Nat) : Nat := fop .quo .f64 (lnum z) (lden z)
def lU (z : Nat) : Nat := fop .mul .f64 (lS z) (lS z)
def lQ (z : Nat) : Nat := lser (lU z) 13
def lP (z : Nat) : Nat := fop .mul .f64 (lS z) (lQ z)
def lT (z : Nat) : Nat := fop .mul .f64 4611686018427387904 (lP z)
def lE (e : Int) : Nat := fop .mul .f64 (kfI e) 4604418534313441775
def lO (z : Nat) (e : Int) : Nat := fop .add .f64 (lT z) (lE e)
theorem bd_two : Bd 1024 4611686018427387904 := by unfold Bd; decide +kernel
theorem bd_ln2 : Bd 1023 4604418534313441775 := by unfold Bd; decide +kernel
section
variable {z : Nat} (h1 : 4503599627370496 ≤ z) (h2 : z < 4609434218613702656)
include h1 h2
theorem z_up : Up 1024 z := by unfold Up; omega
theorem lnum_bd : Bd 1025 (lnum z) := bd_sub (k := 1024) (by omega) (by omega) ((z_up h1 h2).bd (by omega)) (bd_mono bd_one (by omega))
theorem lden_ok : Up 1025 (lden z) ∧ Lo 1023 (lden z) := up_one (by omega) (by omega) (z_up h1 h2)
theorem lS_bd : Bd 1026 (lS z) := bd_quo (a := 1025) (b := 1023) (c := 1026) (by omega) (by omega) (by omega) (by omega) (by omega) (by omega) (lnum_bd h1 h2) (lden_ok h1 h2).2
theorem lU_bd : Bd 1029 (lU z) := bd_mul (a := 1026) (b := 1026) (by omega) (by omega) (by omega) (by omega) (by omega) (by omega) (by omega) (lS_bd h1 h2) (lS_bd h1 h2)
theorem lQ_bd : Bd 1114 (lQ z) := lser_bd (lU_bd h1 h2) 13 (by omega)
theorem lP_bd : Bd 1117 (lP z) := bd_mul (a := 1026) (b := 1114) (by omega) (by omega) (by omega) (by omega) (by omega) (by omega) (by omega) (lS_bd h1 h2) (lQ_bd h1 h2)
theorem lT_bd : Bd 1118 (lT z) := bd_mul (a := 1024) (b := 1117) (by omega) (by omega) (by omega) (by omega) (by omega) (by omega) (by omega) bd_two (lP_bd h1 h2)
end
theorem lE_bd {e : Int} (h1 : -180 ≤ e) (h2 : e ≤ 180) : Bd 1033 (lE e) := bd_mul (a := 1033) (b := 1023) (by omega) (by omega) (by omega) (by omega) (by omega) (by omega) (by omega) (kfI_ok h1 h2).2 bd_ln2
theorem lO_bd {z : Nat} {e : Int} (h1 : 4503599627370496 ≤ z) (h2 : z < 4609434218613702656) (h3 : -180 ≤ e) (h4 : e ≤ 180) : Bd 1119 (lO z e) := bd_add (k := 1118) (by omega) (by omega) (lT_bd h1 h2) (bd_mono (lE_bd h3 h4) (by omega))

/-- The number cut to between 3/4 and 3/2, and how many halves were taken. -/
def zf (y : Nat) : Nat := (4604930618986332160 + ((y : Int) - 4604930618986332160) % 4503599627370496).toNat
def ef (y : Nat) : Int := ((y : Int) - 4604930618986332160) / 4503599627370496
theorem cut_uniq {y z : Nat} {e : Int} (h1 : 4604930618986332160 ≤ z) (h2 : z < 4609434218613702656) (h : (z : Int) + e * 4503599627370496 = y) : zf y = z ∧ ef y = e := by
  unfold zf ef; omega
theorem cut_ok (y : Nat) (h1 : 874 * 4503599627370496 ≤ y) (h2 : y ≤ 1151 * 4503599627370496) : 4503599627370496 ≤ zf y ∧ zf y < 4609434218613702656 ∧ -180 ≤ ef y ∧ ef y ≤ 180 := by
  unfold zf ef; omega
/-- The logarithm in 64 bits, of a positive finite number. -/
def logW (y : Nat) : Nat := lO (zf y) (ef y)
theorem logW_bd {y : Nat} (h1 : 874 * 4503599627370496 ≤ y) (h2 : y ≤ 1151 * 4503599627370496) : Bd 1119 (logW y) := by
  obtain ⟨a, b, c, d⟩ := cut_ok y h1 h2
  exact lO_bd a b c d

/-- A finite 32-bit number that is greater than zero, widened. -/
theorem cv_pos {x : Nat} (hx : rungAt single x < single.infRung) (hn : negOf single x = false) (h0 : rungAt single x ≠ 0) : 874 * 4503599627370496 ≤ cv x ∧ cv x ≤ 1151 * 4503599627370496 := by
  obtain ⟨g1, g2, v, g4⟩ := cv_finite hx
  have hw := word_of double (x := cv x) (by rw [double_sign]; omega)
  rw [g1, hn, word_pos] at hw
  have hb := cv_bd hx
  unfold Bd at hb
  rw [hw] at hb v
  refine ⟨?_, hb⟩
  obtain ⟨K, hK⟩ : ∃ K : Nat, K = 874 := ⟨_, rfl⟩
  have h1 : 1 ≤ rv single (rungAt single x) := by
    have := rv_lt single (r := 0) (q := rungAt single x) (by omega)
    rw [rv_zero] at this; exact this
  have h2 : rv double (K * double.binade) ≤ rv double (cv x) := by
    rw [v, rv_pow double (by omega)]
    have e : double.fractionBits + K - 1 = sc := by show 52 + K - 1 = _; rw [sc_eq]; omega
    rw [e]
    have := Nat.mul_le_mul_right (2 ^ sc) h1
    rwa [Nat.one_mul] at this
  rcases Nat.lt_or_ge (cv x) (K * double.binade) with h3 | h3
  · have := rv_lt double h3; omega
  · rw [double_binade, hK] at h3; exact h3
end Go.Proofs.Ytcmmafkmfahijaa
