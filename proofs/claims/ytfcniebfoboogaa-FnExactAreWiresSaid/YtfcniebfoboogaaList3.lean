/- Lists of wires: compared, and whether all are valid; how a law's list is opened. Conditions: as each says. -/
import Derived.Test.YtfcniebfoboogaaList2
namespace Go.Proofs.Ytfcniebfoboogaa
open Go.RowKit
attribute [local go_sem ↓] Go.wp_at_zero Go.wp_at_succ

/-- Six cells and more. -/
abbrev SE (B i : Nat) (a b c : Value) (C : Nat) (d e f : Value) (K : World → Prop) (w : World) : Prop :=
  w.cell? ⟨B, i, none⟩ = some a ∧ w.cell? ⟨B, i + 1, none⟩ = some b ∧ w.cell? ⟨B, i + 2, none⟩ = some c ∧ w.cell? ⟨C, i, none⟩ = some d ∧ w.cell? ⟨C, i + 1, none⟩ = some e ∧ w.cell? ⟨C, i + 2, none⟩ = some f ∧ K w
section
variable {B i C : Nat} {a b c d e f : Value} {K : World → Prop} {w w' : World}
def Kept (K : World → Prop) : Prop := ∀ w w' : World, Below w.heap.size w w' → K w → K w'
theorem SE.keep (HK : Hid (Kept K)) (hb : Below w.heap.size w w') (h : SE B i a b c C d e f K w) : SE B i a b c C d e f K w' :=
  ⟨cellKeep hb h.1, cellKeep hb h.2.1, cellKeep hb h.2.2.1, cellKeep hb h.2.2.2.1, cellKeep hb h.2.2.2.2.1, cellKeep hb h.2.2.2.2.2.1, HK.out w w' hb h.2.2.2.2.2.2⟩
theorem SE.drew (HK : Hid (Kept K)) (h : SE B i a b c C d e f K w) : SE B i a b c C d e f K w.drew := SE.keep HK (Below.drew (Below.refl _ _)) h
theorem SE.whole (h : SE B i a b c C d e f K w) : K w := h.2.2.2.2.2.2
end
set_option maxRecDepth 100000 in
theorem laws_eqWS (B C m : Nat) (D : Nat → WD) (hm : m ≤ 1048576) (hn : ∀ i, i < m → (D i).n ≤ 1048576) (w : World) (h1 : CopyL w B m D) (h2 : CopyL w C m D) :
    Calls Try.prog 32 #[.slice (some ⟨B, 0, none⟩) m m, .slice (some ⟨C, 0, none⟩) m m] w (BoolIs true w) := by
  have nn : ((m : Int) != (m : Int)) = false := by simp
  have H1 := Lib.hid h1
  have H2 := Lib.hid h2
  have HN := Lib.hid hn
  clear h1 h2 hn
  go_enter Try.func32, Try.ntmps32
  go_wp2_with fail
  clear nn
  go_loopw [5] (fun i wr => ∃ k : Nat, k ≤ m ∧ i = .int .i64 k ∧ Below w.heap.size w wr) (fun i _ => m - (intOf i).toNat)
  case atStart => exact ⟨0, Nat.zero_le _, rfl, Below.refl _ _⟩
  case round =>
    obtain ⟨k, hk, rfl, hbel⟩ := hrel
    have HB := Lib.hid hbel
    by_cases hlt : k < m
    · obtain ⟨X, x0, x1, x2, xv, xl⟩ := H1.out.keep hbel k hlt
      obtain ⟨Y, y0, y1, y2, yv, yl⟩ := H2.out.keep hbel k hlt
      have p0 : (0 : Int) ≤ (k : Int) := by omega
      have p1 : (k : Int) < (m : Int) := by omega
      have hnk := HN.out k hlt
      generalize D k = d at *
      obtain ⟨K, eK⟩ : ∃ K : World → Prop, K = (fun w => PtsA w (some ⟨X, 0, none⟩) d.n d.P ∧ PtsA w (some ⟨Y, 0, none⟩) d.n d.P) := ⟨_, rfl⟩
      have HK : Hid (Kept K) := Lib.hid (fun w w' hb h => by rw [eK] at h ⊢; exact ⟨h.1.keep hb, h.2.keep hb⟩)
      have HC : Hid (∀ w, K w → Calls Try.prog 19 #[wireV (.slice (some ⟨X, 0, none⟩) d.n d.n) d.cl d.cu, wireV (.slice (some ⟨Y, 0, none⟩) d.n d.n) d.cl d.cu] w (BoolIs true w)) :=
        Lib.hid (fun w h => by rw [eK] at h; exact laws_eqWireA _ _ _ _ d.n d.cu d.cl d.P hnk w h.1 h.2)
      have S0 : SE B (k * 3) (.slice (some ⟨X, 0, none⟩) d.n d.n) (.bool d.cl) (.float .f32 d.cu) C (.slice (some ⟨Y, 0, none⟩) d.n d.n) (.bool d.cl) (.float .f32 d.cu) K wr := ⟨x0, x1, x2, y0, y1, y2, by rw [eK]; exact ⟨.inr ⟨X, 0, rfl, xv, xl⟩, .inr ⟨Y, 0, rfl, yv, yl⟩⟩⟩
      clear x0 x1 x2 y0 y1 y2 xv xl yv yl eK hbel
      go_wp2_with fail
      go_region_held3 (SE B (k * 3) (.slice (some ⟨X, 0, none⟩) d.n d.n) (.bool d.cl) (.float .f32 d.cu) C (.slice (some ⟨Y, 0, none⟩) d.n d.n) (.bool d.cl) (.float .f32 d.cu) K) (with_reducible (first | exact S0 | exact SE.drew HK S0 | exact SE.keep HK hb (by assumption) | exact SE.keep HK hb (SE.drew HK S0)))
        (first
          | (go_at_call 19; refine (HC.out _ (SE.whole (by with_reducible assumption))).mono ?_; rintro e w8 ⟨rfl, hb⟩))
      have HB2 := Lib.hid (belowNext HB.out.drew hb)
      clear hb S0 HK HC
      go_wp2_with fail
      go_roundw
      case rel => exact ⟨k + 1, by omega, by go_num, HB2.out⟩
      case measure => simp [intOf]; omega
    · obtain rfl : k = m := by omega
      clear hbel
      go_wp2_with fail
      go_ret
      exact ⟨rfl, HB.out⟩
set_option maxRecDepth 100000 in
theorem spec_isAt (p q b o n c cu : Nat) (P : Nat → Nat) (hn : n ≤ 9223372036854775807) (w : World) (c0 : w.cell? ⟨p, q, none⟩ = some (.slice (some ⟨b, o, none⟩) n c)) (c2 : w.cell? ⟨p, q + 2, none⟩ = some (.float .f32 cu)) (hv : VS w b o n P) :
    Calls Try.prog 50 #[.pointer (some ⟨p, q, none⟩)] w (BoolIs (validB P n cu) w) := by
  by_cases h2 : 2 ≤ n
  · have t2 : decide ((n : Int) < 2) = false := decide_eq_false (by omega)
    by_cases h48 : n ≤ 48
    · have t48 : decide (48 < (n : Int)) = false := decide_eq_false (by omega)
      cases hf : finB cu
      · have e : validB P n cu = false := by unfold validB; rw [hf, Bool.false_and, Bool.and_false, Bool.and_false]
        rw [e]
        clear e hv
        go_enter Try.func50, Try.ntmps50
        go_wp2_with (first | (go_at_call 88; refine (spec_l01Finite _ _).mono ?_; rw [hf]; rintro e w' ⟨rfl, nn, rfl⟩))
        go_ret
        exact ⟨rfl, below_drewN (Below.refl _ _) _⟩
      · have HV := Lib.hid hv
        have hvd : Hid (validB P n cu = allFin P n) := by
          have : validB P n cu = allFin P n := by unfold validB; rw [hf, decide_eq_true h2, decide_eq_true h48]; rfl
          exact Lib.hid this
        clear hv
        go_enter Try.func50, Try.ntmps50
        go_wp2_with (first | (go_at_call 88; refine (spec_l01Finite _ _).mono ?_; rw [hf]; rintro e w' ⟨rfl, nn, rfl⟩))
        go_loopw [3] (fun i wr => ∃ k : Nat, k ≤ n ∧ i = .int .i64 k ∧ allFin P k = true ∧ Below w.heap.size w wr) (fun i _ => n - (intOf i).toNat)
        case atStart => exact ⟨0, Nat.zero_le _, rfl, rfl, below_drewN (Below.refl _ _) _⟩
        case round =>
          obtain ⟨k, hk, rfl, hall, hbel⟩ := hrel
          have d0 := cellKeep hbel c0
          have d2 := cellKeep hbel c2
          have hall1 := Lib.hid hall
          have hvw := Lib.hid (VS.keep hbel HV.out)
          have hbel1 := Lib.hid hbel
          clear hall hbel
          by_cases hlt : k < n
          · obtain ⟨x1, x2, x3⟩ := hvw.out.three hlt
            cases hvk : (finB (P (k * 3)) && (finB (P (k * 3 + 1)) && finB (P (k * 3 + 2))))
            · go_wp2_with (first | (go_at_call 89; refine (spec_vfin _ _ _ _).mono ?_; rw [hvk]; rintro e w' ⟨rfl, hb⟩; have hb2 := Lib.hid hb; clear hb))
              go_ret
              refine ⟨ret_bool ?_, belowNext hbel1.out hb2.out⟩
              rw [hvd.out, allFin_no hvk hlt]
            · go_wp2_with (first | (go_at_call 89; refine (spec_vfin _ _ _ _).mono ?_; rw [hvk]; rintro e w' ⟨rfl, hb⟩; have hb2 := Lib.hid hb; clear hb))
              go_roundw
              case rel => exact ⟨k + 1, by omega, by go_num, by unfold allFin vfinP; rw [hall1.out, hvk]; rfl, belowNext hbel1.out hb2.out⟩
              case measure => simp [intOf]; omega
          · obtain rfl : k = n := by omega
            go_wp2_with fail
            go_ret
            exact ⟨ret_bool (by rw [hvd.out, hall1.out]), hbel1.out⟩
    · have t48 : decide (48 < (n : Int)) = true := decide_eq_true (by omega)
      have e : validB P n cu = false := by unfold validB; rw [decide_eq_false h48, Bool.false_and, Bool.and_false]
      rw [e]
      clear e hv
      go_enter Try.func50, Try.ntmps50
      go_wp2_with fail
      go_ret
      exact ⟨rfl, Below.refl _ _⟩
  · have t2 : decide ((n : Int) < 2) = true := decide_eq_true (by omega)
    have e : validB P n cu = false := by unfold validB; rw [decide_eq_false h2, Bool.false_and]
    rw [e]
    clear e hv
    go_enter Try.func50, Try.ntmps50
    go_wp2_with fail
    go_ret
    exact ⟨rfl, Below.refl _ _⟩
theorem spec_l02Are (B m : Nat) (D : Nat → WD) (hm : m ≤ 1048576) (hn : ∀ i, (D i).n ≤ 9223372036854775807) (w : World) (h : CopyL w B m D) :
    Calls Try.prog 69 #[.slice (some ⟨B, 0, none⟩) m m] w (BoolIs (areB D m) w) := by
  have H := Lib.hid h
  have HN := Lib.hid hn
  clear h hn
  by_cases h8 : m ≤ 8
  · have t8 : decide ((m : Int) ≤ 8) = true := decide_eq_true (by omega)
    have hv : Hid (areB D m = allOk D m) := by
      have : areB D m = allOk D m := by unfold areB; rw [decide_eq_true h8]; rfl
      exact Lib.hid this
    go_enter Try.func69, Try.ntmps69
    go_wp2_with fail
    go_loopw [3] (fun i wr => ∃ k : Nat, k ≤ m ∧ i = .int .i64 k ∧ allOk D k = true ∧ Below w.heap.size w wr) (fun i _ => m - (intOf i).toNat)
    case atStart => exact ⟨0, Nat.zero_le _, rfl, rfl, Below.refl _ _⟩
    case round =>
      obtain ⟨k, hk, rfl, hall, hbel⟩ := hrel
      have hall1 := Lib.hid hall
      have hbel1 := Lib.hid hbel
      clear hall
      by_cases hlt : k < m
      · obtain ⟨X, x0, x1, x2, xv, xl⟩ := H.out.keep hbel k hlt
        have hnk := HN.out k
        have HV := Lib.hid xv
        clear xv hbel
        cases hvk : validB (D k).P (D k).n (D k).cu
        · go_wp2_with fail
          refine (spec_isAt B (k * 3) X 0 (D k).n (D k).n (D k).cu (D k).P hnk _ x0 x2 HV.out).mono ?_
          rw [hvk]
          rintro e w' ⟨rfl, hb⟩
          have hb2 := Lib.hid hb
          clear hb
          go_wp2_with fail
          go_ret
          exact ⟨ret_bool (by rw [hv.out, allOk_no hvk hlt]), belowNext hbel1.out hb2.out⟩
        · go_wp2_with fail
          refine (spec_isAt B (k * 3) X 0 (D k).n (D k).n (D k).cu (D k).P hnk _ x0 x2 HV.out).mono ?_
          rw [hvk]
          rintro e w' ⟨rfl, hb⟩
          have hb2 := Lib.hid hb
          clear hb
          go_wp2_with fail
          go_roundw
          case rel => exact ⟨k + 1, by omega, by go_num, by unfold allOk; rw [hall1.out, hvk]; rfl, belowNext hbel1.out hb2.out⟩
          case measure => simp [intOf]; omega
      · obtain rfl : k = m := by omega
        clear hbel
        go_wp2_with fail
        go_ret
        exact ⟨ret_bool (by rw [hv.out, hall1.out]), hbel1.out⟩
  · have t8 : decide ((m : Int) ≤ 8) = false := decide_eq_false (by omega)
    have e : areB D m = false := by unfold areB; rw [decide_eq_false h8]; rfl
    rw [e]
    clear e
    go_enter Try.func69, Try.ntmps69
    go_wp2_with fail
    go_loopw [3] (fun i wr => i = .int .i64 0 ∧ wr = w) (fun _ _ => 0)
    case atStart => exact ⟨rfl, rfl⟩
    case round =>
      obtain ⟨rfl, rfl⟩ := hrel
      have l0 : 0 < m := by omega
      go_wp2_with fail
      go_ret
      exact ⟨rfl, Below.refl _ _⟩
theorem spec_AreWires (B m : Nat) (D : Nat → WD) (hm : m ≤ 1048576) (hn : ∀ i, (D i).n ≤ 9223372036854775807) (w : World) (h : CopyL w B m D) :
    Calls Try.prog 29 #[.slice (some ⟨B, 0, none⟩) m m] w (BoolIs (areB D m) w) := by
  have HC := Lib.hid (spec_l02Are B m D hm hn w h)
  clear h hn
  go_enter Try.func29, Try.ntmps29
  go_wp2_with fail
  refine HC.out.mono ?_
  rintro e w' ⟨rfl, hb⟩
  have hb2 := Lib.hid hb
  clear hb
  go_wp2_with fail
  go_ret
  exact ⟨rfl, hb2.out⟩
theorem impl_notValid (X n cu : Nat) (cl : Bool) (P : Nat → Nat) (hn : n ≤ 9223372036854775807) (w : World) (h : VS w X 0 n P) :
    Calls Try.prog 71 #[wireV (.slice (some ⟨X, 0, none⟩) n n) cl cu] w (BoolIs (!validB P n cu) w) := by
  have HV := Lib.hid h
  clear h
  cases hv : validB P n cu
  all_goals
    go_enter Try.func71, Try.ntmps71
    go_wp2_with fail
    refine (impl_ValidWire X 0 n n cu cl P hn _ (VS.keep (belowAlloc (Below.refl _ _) _) HV.out)).mono ?_
    rw [hv]
    rintro e w' ⟨rfl, hb⟩
    have hb2 := Lib.hid (belowNext (belowAlloc (Below.refl w.heap.size w) _) hb)
    clear hb
    go_wp2_with fail
    go_ret
    exact ⟨rfl, hb2.out⟩
theorem index_W (B m : Nat) (D : Nat → WD) (hm : m ≤ 1048576) (hn : ∀ i, (D i).n ≤ 9223372036854775807) (w : World) (h : CopyL w B m D) :
    Calls Try.prog 95 #[.slice (some ⟨B, 0, none⟩) m m, .func (Fn.func 71) #[] #[]] w (IdxIs (!allOk D m) w) := by
  have H := Lib.hid h
  have HN := Lib.hid hn
  clear h hn
  go_enter Try.func95, Try.ntmps95
  go_wp2_with fail
  go_loopw [8] (fun i wr => ∃ k : Nat, k ≤ m ∧ i = .int .i64 k ∧ allOk D k = true ∧ Below w.heap.size w wr) (fun i _ => m - (intOf i).toNat)
  case atStart => exact ⟨0, Nat.zero_le _, rfl, rfl, Below.refl _ _⟩
  case round =>
    obtain ⟨k, hk, rfl, hall, hbel⟩ := hrel
    have hall1 := Lib.hid hall
    have hbel1 := Lib.hid hbel
    clear hall
    by_cases hlt : k < m
    · obtain ⟨X, x0, x1, x2, xv, xl⟩ := H.out.keep hbel k hlt
      have hnk := HN.out k
      have HV := Lib.hid xv
      clear xv hbel
      cases hvk : validB (D k).P (D k).n (D k).cu
      · go_wp2_with (first | (go_at_call 71; refine (impl_notValid X (D k).n (D k).cu (D k).cl (D k).P hnk _ HV.out).mono ?_; rw [hvk]; rintro e w' ⟨rfl, hb⟩; have hb2 := Lib.hid hb; clear hb))
        go_ret
        refine ⟨_, rfl, ?_, belowNext hbel1.out hb2.out⟩
        rw [allOk_no hvk hlt]
        exact decide_eq_true (by omega)
      · go_wp2_with (first | (go_at_call 71; refine (impl_notValid X (D k).n (D k).cu (D k).cl (D k).P hnk _ HV.out).mono ?_; rw [hvk]; rintro e w' ⟨rfl, hb⟩; have hb2 := Lib.hid hb; clear hb))
        go_roundw
        case rel => exact ⟨k + 1, by omega, by go_num, by unfold allOk; rw [hall1.out, hvk]; rfl, belowNext hbel1.out hb2.out⟩
        case measure => simp [intOf]; omega
    · obtain rfl : k = m := by omega
      clear hbel
      go_wp2_with fail
      go_ret
      refine ⟨_, rfl, ?_, hbel1.out⟩
      rw [hall1.out]
      exact decide_eq_false (by omega)
theorem impl_AreWires (B m : Nat) (D : Nat → WD) (hm : m ≤ 1048576) (hn : ∀ i, (D i).n ≤ 9223372036854775807) (w : World) (h : CopyL w B m D) :
    Calls Try.prog 31 #[.slice (some ⟨B, 0, none⟩) m m] w (BoolIs (areB D m) w) := by
  have IX := Lib.hid (index_W B m D hm hn w h)
  clear h hn
  by_cases h8 : m ≤ 8
  · have t8 : decide ((m : Int) ≤ 8) = true := decide_eq_true (by omega)
    have e : areB D m = allOk D m := by unfold areB; rw [decide_eq_true h8]; rfl
    rw [e]
    clear e
    generalize allOk D m = bb at *
    cases bb
    all_goals
      go_enter Try.func31, Try.ntmps31
      go_wp2_with (first | (go_at_call 70; go_in) | (go_at_call 95; refine IX.out.mono ?_; rintro e w' ⟨r, rfl, hr, hb⟩; have hb2 := Lib.hid hb; clear hb))
      go_ret
      refine ⟨ret_bool ?_, hb2.out⟩
      simp
  · have t8 : decide ((m : Int) ≤ 8) = false := decide_eq_false (by omega)
    have e : areB D m = false := by unfold areB; rw [decide_eq_false h8]; rfl
    rw [e]
    clear e
    go_enter Try.func31, Try.ntmps31
    go_wp2_with fail
    go_ret
    exact ⟨rfl, Below.refl _ _⟩
end Go.Proofs.Ytfcniebfoboogaa
