/- Contracts of SameWire. Conditions: the bits are those of 32-bit numbers. -/
import Derived.Test.YtfcniebfoboogaaWire
namespace Go.Proofs.Ytfcniebfoboogaa
open Go.RowKit
attribute [local go_sem ↓] Go.wp_at_zero Go.wp_at_succ

def vsameP (P Q : Nat → Nat) (k : Nat) : Bool := sameB (P (k * 3)) (Q (k * 3)) && (sameB (P (k * 3 + 1)) (Q (k * 3 + 1)) && sameB (P (k * 3 + 2)) (Q (k * 3 + 2)))
def allSame (P Q : Nat → Nat) : Nat → Bool
  | 0 => true
  | k + 1 => allSame P Q k && vsameP P Q k
theorem allSame_no {P Q : Nat → Nat} {k : Nat} (h : vsameP P Q k = false) : ∀ {n : Nat}, k < n → allSame P Q n = false := by
  intro n
  induction n with
  | zero => intro h; omega
  | succ n ih =>
    intro hk
    unfold allSame
    by_cases e : k = n
    · subst e; rw [h, Bool.and_false]
    · rw [ih (by omega), Bool.false_and]
/-- Two wires are the same. -/
def sameWB (P Q : Nat → Nat) (n p cu cv : Nat) (cl cm : Bool) : Bool := decide (n = p) && ((cl == cm) && (sameB cu cv && allSame P Q n))
theorem sameWB_eq (P Q : Nat → Nat) (n p cu cv : Nat) (cl cm : Bool) : sameWB P Q n p cu cv cl cm = ((decide (n = p) && allSame P Q n) && ((cl == cm) && sameB cu cv)) := by
  unfold sameWB
  cases decide (n = p) <;> cases cl == cm <;> cases sameB cu cv <;> cases allSame P Q n <;> rfl
set_option maxRecDepth 100000 in
theorem spec_SameWire (b1 o1 c1 n cu b2 o2 c2 p cv : Nat) (cl cm : Bool) (P Q : Nat → Nat) (hn : n ≤ 1048576) (hp : p ≤ 1048576) (hP : ∀ i, P i < 4294967296) (hQ : ∀ i, Q i < 4294967296) (hcu : cu < 4294967296) (hcv : cv < 4294967296)
    (w : World) (h1 : VS w b1 o1 n P) (h2 : VS w b2 o2 p Q) :
    Calls Try.prog 20 #[wireV (.slice (some ⟨b1, o1, none⟩) n c1) cl cu, wireV (.slice (some ⟨b2, o2, none⟩) p c2) cm cv] w (BoolIs (sameWB P Q n p cu cv cl cm) w) := by
  have H1 := Lib.hid h1
  have H2 := Lib.hid h2
  have HP := Lib.hid hP
  have HQ := Lib.hid hQ
  clear h1 h2 hP hQ
  by_cases hnp : n = p
  · subst hnp
    have e0 : sameWB P Q n n cu cv cl cm = ((cl == cm) && (sameB cu cv && allSame P Q n)) := by unfold sameWB; rw [decide_eq_true rfl]; rfl
    have nn : ((n : Int) != (n : Int)) = false := by simp
    by_cases hcc : cl = cm
    case neg =>
      have hcl : (cl == cm) = false := by simpa using hcc
      rw [e0, hcl, Bool.false_and]
      clear e0 hcl
      cases cl <;> cases cm
      · exact absurd rfl hcc
      · go_enter Try.func20, Try.ntmps20
        go_wp2_with fail
        go_ret
        exact ⟨rfl, belowAlloc (belowAlloc (Below.refl _ _) _) _⟩
      · go_enter Try.func20, Try.ntmps20
        go_wp2_with fail
        go_ret
        exact ⟨rfl, belowAlloc (belowAlloc (Below.refl _ _) _) _⟩
      · exact absurd rfl hcc
    case pos =>
      subst hcc
      have hcl : (cl == cl) = true := by simp
      have nc : (cl != cl) = false := by simp
      cases hs : sameB cu cv
      · rw [e0, hcl, hs, Bool.false_and, Bool.and_false]
        clear e0 hcl
        go_enter Try.func20, Try.ntmps20
        go_wp2_with (go_at_call 56; refine (spec_l01Same _ _ hcu hcv _).mono ?_; rw [hs]; rintro e w' ⟨rfl, rfl⟩)
        go_ret
        refine ⟨rfl, ?_⟩
        (repeat' (first | with_reducible exact Below.refl _ _ | with_reducible assumption | with_reducible exact belowNext (by assumption) (by assumption) | with_reducible exact belowAlloc (by assumption) _ | refine below_drewN ?_ _ | refine Below.alloc ?_ (by first | exact Nat.le_refl _ | (simp <;> omega)) _ | refine Below.setCell ?_ (by first | exact Nat.le_refl _ | (simp <;> omega)) _ | refine Below.trans ?_ (Below.mono (by assumption) (by first | exact Nat.le_refl _ | (simp <;> omega)))))
      · rw [e0, hcl, hs, Bool.true_and, Bool.true_and]
        clear e0 hcl
        go_enter Try.func20, Try.ntmps20
        go_wp2_with (go_at_call 56; refine (spec_l01Same _ _ hcu hcv _).mono ?_; rw [hs]; rintro e w' ⟨rfl, rfl⟩)
        clear nc hs
        go_loopw [5] (fun i wr => ∃ k : Nat, k ≤ n ∧ i = .int .i64 k ∧ allSame P Q k = true ∧ wr.cell? ⟨w.heap.size, 0, none⟩ = some (.slice (some ⟨b1, o1, none⟩) n c1) ∧ wr.cell? ⟨w.heap.size + 1, 0, none⟩ = some (.slice (some ⟨b2, o2, none⟩) n c2) ∧ Below w.heap.size w wr) (fun i _ => n - (intOf i).toNat)
        case atStart => exact ⟨0, Nat.zero_le _, rfl, rfl, by simp, by simp, belowAlloc (belowAlloc (Below.refl _ _) _) _⟩
        case round =>
          obtain ⟨k, hk, rfl, hall, k0, m0, hbel⟩ := hrel
          have hall1 := Lib.hid hall
          have v1 := Lib.hid (VS.keep hbel H1.out)
          have v2 := Lib.hid (VS.keep hbel H2.out)
          have hbel1 := Lib.hid hbel
          clear hall hbel
          by_cases hlt : k < n
          · obtain ⟨x1, x2, x3⟩ := v1.out.three hlt
            obtain ⟨y1, y2, y3⟩ := v2.out.three hlt
            have p0 : (0 : Int) ≤ (k : Int) := by omega
            have p1 : (k : Int) < (n : Int) := by omega
            have hx1 := HP.out (k * 3)
            have hx2 := HP.out (k * 3 + 1)
            have hx3 := HP.out (k * 3 + 2)
            have hy1 := HQ.out (k * 3)
            have hy2 := HQ.out (k * 3 + 1)
            have hy3 := HQ.out (k * 3 + 2)
            cases hv : (sameB (P (k * 3)) (Q (k * 3)) && (sameB (P (k * 3 + 1)) (Q (k * 3 + 1)) && sameB (P (k * 3 + 2)) (Q (k * 3 + 2))))
            all_goals
              go_wp2_with fail
              go_region_held3 (fun w' => w'.cell? ⟨w.heap.size, 0, none⟩ = some (.slice (some ⟨b1, o1, none⟩) n c1) ∧ w'.cell? ⟨w.heap.size + 1, 0, none⟩ = some (.slice (some ⟨b2, o2, none⟩) n c2) ∧
                w'.cell? ⟨b1, o1 + k * 3, none⟩ = some (.float .f32 (P (k * 3))) ∧ w'.cell? ⟨b1, o1 + k * 3 + 1, none⟩ = some (.float .f32 (P (k * 3 + 1))) ∧ w'.cell? ⟨b1, o1 + k * 3 + 2, none⟩ = some (.float .f32 (P (k * 3 + 2))) ∧
                w'.cell? ⟨b2, o2 + k * 3, none⟩ = some (.float .f32 (Q (k * 3))) ∧ w'.cell? ⟨b2, o2 + k * 3 + 1, none⟩ = some (.float .f32 (Q (k * 3 + 1))) ∧ w'.cell? ⟨b2, o2 + k * 3 + 2, none⟩ = some (.float .f32 (Q (k * 3 + 2))))
                (first | exact ⟨k0, m0, x1, x2, x3, y1, y2, y3⟩ | (refine ⟨?_, ?_, ?_, ?_, ?_, ?_, ?_, ?_⟩ <;> exact cellKeep hb (by assumption)))
                ((go_at_call 57; refine (spec_vsame _ _ _ _ _ _ hx1 hx2 hx3 hy1 hy2 hy3 _).mono ?_; rw [hv]; rintro e w' ⟨rfl, hb⟩))
              have hb2 := Lib.hid (belowNext hbel1.out.drew hb)
              have k0' := cellKeep hb (show wr.drew.cell? _ = _ from k0)
              have m0' := cellKeep hb (show wr.drew.cell? _ = _ from m0)
              clear hb k0 m0 x1 x2 x3 y1 y2 y3
              go_wp2_with fail
            · go_ret
              refine ⟨ret_bool ?_, hb2.out⟩
              rw [allSame_no hv hlt]
            · go_roundw
              case rel => exact ⟨k + 1, by omega, by go_num, by unfold allSame vsameP; rw [hall1.out, hv]; rfl, k0', m0', hb2.out⟩
              case measure => simp [intOf]; omega
          · obtain rfl : k = n := by omega
            go_wp2_with fail
            go_ret
            exact ⟨ret_bool (by rw [hall1.out]), hbel1.out⟩
  · have e0 : sameWB P Q n p cu cv cl cm = false := by unfold sameWB; rw [decide_eq_false hnp]; rfl
    have nn : ((n : Int) != (p : Int)) = true := by simp; omega
    rw [e0]
    clear e0
    go_enter Try.func20, Try.ntmps20
    go_wp2_with fail
    go_ret
    refine ⟨rfl, ?_⟩
    (repeat' (first | with_reducible exact Below.refl _ _ | with_reducible assumption | with_reducible exact belowNext (by assumption) (by assumption) | with_reducible exact belowAlloc (by assumption) _ | refine below_drewN ?_ _ | refine Below.alloc ?_ (by first | exact Nat.le_refl _ | (simp <;> omega)) _ | refine Below.setCell ?_ (by first | exact Nat.le_refl _ | (simp <;> omega)) _ | refine Below.trans ?_ (Below.mono (by assumption) (by first | exact Nat.le_refl _ | (simp <;> omega)))))
theorem equal_V (b1 o1 c1 n b2 o2 c2 p : Nat) (P Q : Nat → Nat) (hn : n ≤ 1048576) (hp : p ≤ 1048576) (hP : ∀ i, P i < 4294967296) (hQ : ∀ i, Q i < 4294967296) (w : World) (h1 : VS w b1 o1 n P) (h2 : VS w b2 o2 p Q) :
    Calls Try.prog 58 #[.slice (some ⟨b1, o1, none⟩) n c1, .slice (some ⟨b2, o2, none⟩) p c2, .func (Fn.func 59) #[] #[]] w (BoolIs (decide (n = p) && allSame P Q n) w) := by
  have H1 := Lib.hid h1
  have H2 := Lib.hid h2
  have HP := Lib.hid hP
  have HQ := Lib.hid hQ
  clear h1 h2 hP hQ
  by_cases hnp : n = p
  · subst hnp
    have nn : ((n : Int) != (n : Int)) = false := by simp
    rw [decide_eq_true rfl, Bool.true_and]
    go_enter Try.func58, Try.ntmps58
    go_wp2_with fail
    go_loopw [17] (fun i wr => ∃ k : Nat, k ≤ n ∧ i = .int .i64 k ∧ allSame P Q k = true ∧ Below w.heap.size w wr) (fun i _ => n - (intOf i).toNat)
    case atStart => exact ⟨0, Nat.zero_le _, rfl, rfl, Below.refl _ _⟩
    case round =>
      obtain ⟨k, hk, rfl, hall, hbel⟩ := hrel
      have hall1 := Lib.hid hall
      have v1 := Lib.hid (VS.keep hbel H1.out)
      have v2 := Lib.hid (VS.keep hbel H2.out)
      have hbel1 := Lib.hid hbel
      clear hall hbel
      by_cases hlt : k < n
      · obtain ⟨x1, x2, x3⟩ := v1.out.three hlt
        obtain ⟨y1, y2, y3⟩ := v2.out.three hlt
        have hx1 := HP.out (k * 3)
        have hx2 := HP.out (k * 3 + 1)
        have hx3 := HP.out (k * 3 + 2)
        have hy1 := HQ.out (k * 3)
        have hy2 := HQ.out (k * 3 + 1)
        have hy3 := HQ.out (k * 3 + 2)
        have s1 : b1 < wr.heap.size := World.block_lt_of_cell? _ _ x1
        have s2 : b2 < wr.heap.size := World.block_lt_of_cell? _ _ y1
        cases hv : (sameB (P (k * 3)) (Q (k * 3)) && (sameB (P (k * 3 + 1)) (Q (k * 3 + 1)) && sameB (P (k * 3 + 2)) (Q (k * 3 + 2))))
        all_goals
          go_wp2_with (go_at_call 59; refine (impl_vsame _ _ _ _ _ _ hx1 hx2 hx3 hy1 hy2 hy3 _).mono ?_; rw [hv]; rintro e w' ⟨rfl, hb⟩; have hb2 := Lib.hid hb; clear hb)
        · go_ret
          refine ⟨ret_bool ?_, belowNext (belowAlloc (belowAlloc hbel1.out _) _) hb2.out⟩
          rw [allSame_no hv hlt]
        · go_roundw
          case rel => exact ⟨k + 1, by omega, by go_num, by unfold allSame vsameP; rw [hall1.out, hv]; rfl, belowNext (belowAlloc (belowAlloc hbel1.out _) _) hb2.out⟩
          case measure => simp [intOf]; omega
      · obtain rfl : k = n := by omega
        go_wp2_with fail
        go_ret
        exact ⟨ret_bool (by rw [hall1.out]), hbel1.out⟩
  · rw [decide_eq_false hnp, Bool.false_and]
    have nn : ((n : Int) != (p : Int)) = true := by simp; omega
    go_enter Try.func58, Try.ntmps58
    go_wp2_with fail
    go_ret
    exact ⟨rfl, Below.refl _ _⟩
theorem impl_SameWire (b1 o1 c1 n cu b2 o2 c2 p cv : Nat) (cl cm : Bool) (P Q : Nat → Nat) (hn : n ≤ 1048576) (hp : p ≤ 1048576) (hP : ∀ i, P i < 4294967296) (hQ : ∀ i, Q i < 4294967296) (hcu : cu < 4294967296) (hcv : cv < 4294967296)
    (w : World) (h1 : VS w b1 o1 n P) (h2 : VS w b2 o2 p Q) :
    Calls Try.prog 21 #[wireV (.slice (some ⟨b1, o1, none⟩) n c1) cl cu, wireV (.slice (some ⟨b2, o2, none⟩) p c2) cm cv] w (BoolIs (sameWB P Q n p cu cv cl cm) w) := by
  have H1 := Lib.hid h1
  have H2 := Lib.hid h2
  clear h1 h2
  cases ha : (decide (n = p) && allSame P Q n) <;> cases cl <;> cases cm <;> cases hs : sameB cu cv
  all_goals
    rw [sameWB_eq, ha, hs]
    go_enter Try.func21, Try.ntmps21
    go_wp2_with fail
    refine (equal_V b1 o1 c1 n b2 o2 c2 p P Q hn hp hP hQ _ ?_ ?_).mono ?_
    · exact VS.keep (belowAlloc (belowAlloc (Below.refl _ _) _) _) H1.out
    · exact VS.keep (belowAlloc (belowAlloc (Below.refl _ _) _) _) H2.out
    rw [ha]
    rintro e w1 ⟨rfl, hbel⟩
    obtain ⟨h0, _⟩ := bcell hbel
    have hb3 := Lib.hid (belowNext (belowAlloc (belowAlloc (Below.refl w.heap.size w) _) _) hbel)
    clear hbel
    go_wp2_with (go_at_call 60; refine (impl_SameNumber _ _ hcu hcv _).mono ?_; rw [hs]; rintro e w' ⟨rfl, rfl⟩)
    go_ret
    exact ⟨rfl, hb3.out⟩

/-! ### What the law of two wires holds -/
theorem laws_szWireI (a : Option Addr) (n c cu : Nat) (l : Int) (cl : Bool) (hn : (n : Int) ≤ l) (hm : l ≤ 1048576) (w : World) :
    Calls Try.prog 15 #[wireV (.slice a n c) cl cu, .int .i64 l] w fun e w' => e = .returned (.int .i64 (l - (n : Int))) ∧ Below w.heap.size w w' := by
  have h1 : decide (l - (n : Int) < 0) = false := decide_eq_false (by omega)
  go_enter Try.func15, Try.ntmps15
  go_wp2_with (go_at_call 49; go_in)
  go_ret
  refine ⟨rfl, ?_⟩
  (repeat' (first | with_reducible exact Below.refl _ _ | with_reducible assumption | with_reducible exact belowNext (by assumption) (by assumption) | with_reducible exact belowAlloc (by assumption) _ | refine below_drewN ?_ _ | refine Below.alloc ?_ (by first | exact Nat.le_refl _ | (simp <;> omega)) _ | refine Below.setCell ?_ (by first | exact Nat.le_refl _ | (simp <;> omega)) _ | refine Below.trans ?_ (Below.mono (by assumption) (by first | exact Nat.le_refl _ | (simp <;> omega)))))
theorem laws_szWireI_no (a : Option Addr) (n c cu : Nat) (l : Int) (cl : Bool) (hn : ¬ (n : Int) ≤ l) (h0 : 0 ≤ l) (hm : l ≤ 1048576) (hn2 : n ≤ 9223372036854775807) (w : World) :
    Calls Try.prog 15 #[wireV (.slice a n c) cl cu, .int .i64 l] w fun e w' => e = .returned (.int .i64 (-1)) ∧ Below w.heap.size w w' := by
  have h1 : decide (l - (n : Int) < 0) = true := decide_eq_true (by omega)
  go_enter Try.func15, Try.ntmps15
  go_wp2_with (go_at_call 49; go_in)
  go_ret
  refine ⟨rfl, ?_⟩
  (repeat' (first | with_reducible exact Below.refl _ _ | with_reducible assumption | with_reducible exact belowNext (by assumption) (by assumption) | with_reducible exact belowAlloc (by assumption) _ | refine below_drewN ?_ _ | refine Below.alloc ?_ (by first | exact Nat.le_refl _ | (simp <;> omega)) _ | refine Below.setCell ?_ (by first | exact Nat.le_refl _ | (simp <;> omega)) _ | refine Below.trans ?_ (Below.mono (by assumption) (by first | exact Nat.le_refl _ | (simp <;> omega)))))
theorem twoBoxes {w w1 : World} {a b c d e f : Value} {t u : TypeId} (hb : Below ((w.alloc (.cells #[a, b, c] t)).alloc (.cells #[d, e, f] u)).heap.size ((w.alloc (.cells #[a, b, c] t)).alloc (.cells #[d, e, f] u)) w1) :
    w1.cell? ⟨w.heap.size, 0, none⟩ = some a ∧ w1.cell? ⟨w.heap.size, 1, none⟩ = some b ∧ w1.cell? ⟨w.heap.size, 2, none⟩ = some c ∧
    w1.cell? ⟨w.heap.size + 1, 0, none⟩ = some d ∧ w1.cell? ⟨w.heap.size + 1, 1, none⟩ = some e ∧ w1.cell? ⟨w.heap.size + 1, 2, none⟩ = some f := by
  obtain ⟨h0, h1, h2, _⟩ := newCells hb
  simp only [World.size_alloc] at h0 h1 h2
  exact ⟨cellKeep hb (cellAlloc (by rw [World.cell?_alloc_new]; rfl) _), cellKeep hb (cellAlloc (by rw [World.cell?_alloc_new]; rfl) _), cellKeep hb (cellAlloc (by rw [World.cell?_alloc_new]; rfl) _), h0, h1, h2⟩
def Live2 (W : World) (a : Option Addr) (n : Nat) (P : Nat → Nat) (b : Option Addr) (m : Nat) (Q : Nat → Nat) (w : World) : Prop := PtsA w a n P ∧ PtsA w b m Q ∧ Below W.heap.size W w
theorem Live2.keep {W w w' : World} {a b : Option Addr} {n m : Nat} {P Q : Nat → Nat} (hb : Below w.heap.size w w') (h : Live2 W a n P b m Q w) : Live2 W a n P b m Q w' := ⟨h.1.keep hb, h.2.1.keep hb, belowNext h.2.2 hb⟩
theorem Live2.drew {W w : World} {a b : Option Addr} {n m : Nat} {P Q : Nat → Nat} (h : Live2 W a n P b m Q w) : Live2 W a n P b m Q w.drew := ⟨h.1, h.2.1, h.2.2.drew⟩
/-- The boxes of both arguments, their points. -/
abbrev T2 (W : World) (a : Option Addr) (n c cu : Nat) (cl : Bool) (P : Nat → Nat) (b : Option Addr) (m d cv : Nat) (cm : Bool) (Q : Nat → Nat) (w' : World) : Prop :=
  w'.cell? ⟨W.heap.size, 0, none⟩ = some (.slice a n c) ∧ w'.cell? ⟨W.heap.size, 1, none⟩ = some (.bool cl) ∧ w'.cell? ⟨W.heap.size, 2, none⟩ = some (.float .f32 cu) ∧
  w'.cell? ⟨W.heap.size + 1, 0, none⟩ = some (.slice b m d) ∧ w'.cell? ⟨W.heap.size + 1, 1, none⟩ = some (.bool cm) ∧ w'.cell? ⟨W.heap.size + 1, 2, none⟩ = some (.float .f32 cv) ∧ Live2 W a n P b m Q w'
section
variable {W w1 w2 : World} {a b : Option Addr} {n c cu m d cv : Nat} {cl cm : Bool} {P Q : Nat → Nat}
theorem T2.keep (hb : Below w1.heap.size w1 w2) (h : T2 W a n c cu cl P b m d cv cm Q w1) : T2 W a n c cu cl P b m d cv cm Q w2 := by
  obtain ⟨h0, h1, h2, h3, h4, h5, h6⟩ := h
  exact ⟨cellKeep hb h0, cellKeep hb h1, cellKeep hb h2, cellKeep hb h3, cellKeep hb h4, cellKeep hb h5, h6.keep hb⟩
theorem T2.drew (h : T2 W a n c cu cl P b m d cv cm Q w1) : T2 W a n c cu cl P b m d cv cm Q w1.drew := by
  obtain ⟨h0, h1, h2, h3, h4, h5, h6⟩ := h
  exact ⟨h0, h1, h2, h3, h4, h5, h6.drew⟩
theorem T2.live (h : T2 W a n c cu cl P b m d cv cm Q w1) : Live2 W a n P b m Q w1 := h.2.2.2.2.2.2
end
/-- A copy of a wire in a variable of the law's own. -/
abbrev CopyW (g X n cu : Nat) (cl : Bool) (P : Nat → Nat) (w : World) : Prop := w.cell? ⟨g, 0, none⟩ = some (.slice (some ⟨X, 0, none⟩) n n) ∧ w.cell? ⟨g, 1, none⟩ = some (.bool cl) ∧ w.cell? ⟨g, 2, none⟩ = some (.float .f32 cu) ∧ VS w X 0 n P ∧ X < w.heap.size
theorem CopyW.keep {g X n cu : Nat} {cl : Bool} {P : Nat → Nat} {w w' : World} (hb : Below w.heap.size w w') (h : CopyW g X n cu cl P w) : CopyW g X n cu cl P w' := ⟨cellKeep hb h.1, cellKeep hb h.2.1, cellKeep hb h.2.2.1, VS.keep hb h.2.2.2.1, Nat.lt_of_lt_of_le h.2.2.2.2 hb.size⟩
theorem CopyW.drew {g X n cu : Nat} {cl : Bool} {P : Nat → Nat} {w : World} (h : CopyW g X n cu cl P w) : CopyW g X n cu cl P w.drew := h
/-- New points. -/
def NewP (X n : Nat) (P : Nat → Nat) (w : World) : Prop := VS w X 0 n P ∧ X < w.heap.size
theorem NewP.keep {X n : Nat} {P : Nat → Nat} {w w' : World} (hb : Below w.heap.size w w') (h : NewP X n P w) : NewP X n P w' := ⟨VS.keep hb h.1, Nat.lt_of_lt_of_le h.2 hb.size⟩
theorem NewP.row {X n : Nat} {P : Nat → Nat} {w : World} {E : TypeId} (h : w.rowIs X E (n * 3) (fun i => .float .f32 (P i))) : NewP X n P w := ⟨VS.row h, h.lt⟩
/-- The copies of both arguments, beside what T2 holds. -/
abbrev U2 (W : World) (a : Option Addr) (n c cu : Nat) (cl : Bool) (P : Nat → Nat) (b : Option Addr) (m d cv : Nat) (cm : Bool) (Q : Nat → Nat) (g X h Y : Nat) (w' : World) : Prop := CopyW g X n cu cl P w' ∧ CopyW h Y m cv cm Q w' ∧ T2 W a n c cu cl P b m d cv cm Q w'
section
variable {W w1 w2 : World} {a b : Option Addr} {n c cu m d cv g X h Y Z : Nat} {cl cm : Bool} {P Q : Nat → Nat}
theorem U2.keep (hb : Below w1.heap.size w1 w2) (hu : U2 W a n c cu cl P b m d cv cm Q g X h Y w1) : U2 W a n c cu cl P b m d cv cm Q g X h Y w2 := ⟨CopyW.keep hb hu.1, CopyW.keep hb hu.2.1, T2.keep hb hu.2.2⟩
theorem U2.drew (hu : U2 W a n c cu cl P b m d cv cm Q g X h Y w1) : U2 W a n c cu cl P b m d cv cm Q g X h Y w1.drew := ⟨CopyW.drew hu.1, CopyW.drew hu.2.1, T2.drew hu.2.2⟩
theorem U2.live (hu : U2 W a n c cu cl P b m d cv cm Q g X h Y w1) : Live2 W a n P b m Q w1 := hu.2.2.live
theorem eqW_first (hn : n ≤ 1048576) (hu : U2 W a n c cu cl P b m d cv cm Q g X h Y w1) (hZ : Hid (NewP Z n P w1)) :
    Calls Try.prog 19 #[wireV (.slice (some ⟨X, 0, none⟩) n n) cl cu, wireV (.slice (some ⟨Z, 0, none⟩) n n) cl cu] w1 (BoolIs true w1) :=
  laws_eqWire X 0 n Z 0 n n cu cu cu cl P P P hn _ hu.1.2.2.2.1 hZ.out.1 hu.1.2.2.2.2 hZ.out.2 (fun _ _ => ⟨Same.refl _ _, Same.refl _ _⟩) (Same.refl _ _) (Same.refl _ _)
theorem eqW_second (hm : m ≤ 1048576) (hu : U2 W a n c cu cl P b m d cv cm Q g X h Y w1) (hZ : Hid (NewP Z m Q w1)) :
    Calls Try.prog 19 #[wireV (.slice (some ⟨Y, 0, none⟩) m m) cm cv, wireV (.slice (some ⟨Z, 0, none⟩) m m) cm cv] w1 (BoolIs true w1) :=
  laws_eqWire Y 0 m Z 0 m m cv cv cv cm Q Q Q hm _ hu.2.1.2.2.2.1 hZ.out.1 hu.2.1.2.2.2.2 hZ.out.2 (fun _ _ => ⟨Same.refl _ _, Same.refl _ _⟩) (Same.refl _ _) (Same.refl _ _)
theorem CopyW.new {w w' : World} {t : TypeId} (hX : NewP X n P w) (hb : Below (w.alloc (.cells #[.slice (some ⟨X, 0, none⟩) n n, .bool cl, .float .f32 cu] t)).heap.size (w.alloc (.cells #[.slice (some ⟨X, 0, none⟩) n n, .bool cl, .float .f32 cu] t)) w') : CopyW w.heap.size X n cu cl P w' := by
  obtain ⟨h0, h1, h2, _⟩ := newCells hb
  have k := NewP.keep hb (NewP.keep (belowAlloc (Below.refl _ _) _) hX)
  exact ⟨h0, h1, h2, k.1, k.2⟩
end
end Go.Proofs.Ytfcniebfoboogaa
