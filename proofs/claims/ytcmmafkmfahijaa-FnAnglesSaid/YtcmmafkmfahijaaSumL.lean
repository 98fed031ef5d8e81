/- Contracts for the law of sums: equal numbers, a number chosen by a byte. Conditions: as each says. -/
import Derived.Test.YtcmmafkmfahijaaSumC
import Derived.Test.YtcmmafkmfahijaaSinePlain
namespace Go.Proofs.Ytcmmafkmfahijaa
open Go.RowKit
attribute [local go_sem ↓] Go.wp_at_zero Go.wp_at_succ

theorem fop_lt (op : BinOp) (x y : Nat) (w : World) : fop op .f32 x y < 4294967296 := by
  have h := fval_lt op x y w
  unfold fop
  unfold fval at h
  cases e : floatBits op .f32 x y with
  | none => exact (by decide : cnan .f32 < 4294967296)
  | some r => rw [e] at h; exact h
theorem sumF_lt (L : Nat → Nat) (w : World) : ∀ k, sumF L k < 4294967296
  | 0 => Nat.zero_lt_succ _
  | _ + 1 => fop_lt .add _ _ w
theorem bits_nan_of (x : Nat) (h : nanB .f32 x = true) (w : World) : Calls Try.prog 74 #[.float .f32 x] w fun e w' => e = .returned (.int .i64 2143289344) ∧ w = w' := by
  have sx := order_self .f32 x
  rw [h, if_pos rfl] at sx
  go_enter Try.func74, Try.ntmps74
  go_wp2_with fail
  go_ret
  exact ⟨rfl, rfl⟩
theorem spec_same_bits {x y : Nat} {B : Int} (cx : ∀ v : World, Calls Try.prog 74 #[.float .f32 x] v fun e v' => e = .returned (.int .i64 B) ∧ v = v') (cy : ∀ v : World, Calls Try.prog 74 #[.float .f32 y] v fun e v' => e = .returned (.int .i64 B) ∧ v = v') (w : World) :
    Calls Try.prog 71 #[.float .f32 x, .float .f32 y] w fun e w' => e = .returned (.bool true) ∧ w = w' := by
  have CX := Lib.hid cx
  have CY := Lib.hid cy
  clear cx cy
  go_enter Try.func71, Try.ntmps71
  go_wp2_with (go_at_call 74; first | ((with_reducible refine (CX.out _).mono ?_); rintro e w' ⟨rfl, rfl⟩) | ((with_reducible refine (CY.out _).mono ?_); rintro e w' ⟨rfl, rfl⟩))
  go_ret
  exact ⟨ret_bool rfl, rfl⟩
theorem spec_same_of {x y : Nat} (h : Same .f32 x y) (hy : y < 4294967296) (w : World) : Calls Try.prog 27 #[.float .f32 x, .float .f32 y] w fun e w' => e = .returned (.bool true) ∧ w = w' := by
  have hs : ∀ v : World, Calls Try.prog 71 #[.float .f32 x, .float .f32 y] v fun e v' => e = .returned (.bool true) ∧ v = v' := by
    rcases h with e | ⟨h1, h2⟩
    · have c := fun w => spec_l01Bits y hy w
      rw [e]
      exact spec_same_bits c c
    · exact spec_same_bits (bits_nan_of x h1) (bits_nan_of y h2)
  have HS := Lib.hid hs
  clear h hy hs
  go_enter Try.func27, Try.ntmps27
  go_wp2_with (go_at_call 71; refine (HS.out _).mono ?_; rintro e w' ⟨rfl, rfl⟩)
  go_ret
  exact ⟨rfl, rfl⟩
theorem tmod_range (v m : Int) (hm : 0 < m) : 0 ≤ v % m ∧ v % m < m := ⟨Int.emod_nonneg v (by omega), Int.emod_lt_of_pos v hm⟩
/-- A number from 0 to m - 1. -/
theorem b10At_of (N : Nat) (a : Option Addr) (n c i : Nat) (m : Int) (hi : i ≤ 100) (hm : 2 ≤ m) (hm2 : m ≤ 65536) (hn : n ≤ 1048576) (w : World) (h : Bytes N a n w) :
    Calls Try.prog 38 #[.slice a n c, .int .i64 i, .int .i64 m] w fun e w' => ∃ v : Int, e = .returned (.int .i64 v) ∧ (0 ≤ v ∧ v < m) ∧ w = w' := by
  by_cases hl : i < n
  · rcases h with rfl | ⟨b, o, rfl, hb, hv⟩
    · omega
    · obtain ⟨v, v0, v1, hc⟩ := hv i hl
      have hr := tmod_range v m (by omega)
      have HR := Lib.hid hr
      clear hv hr
      go_enter Try.func38, Try.ntmps38
      go_wp2_with fail
      go_ret
      exact ⟨_, rfl, HR.out, rfl⟩
  · have hr := tmod_range ((i : Int) * 37 + 11) m (by omega)
    have HR := Lib.hid hr
    clear h hr
    go_enter Try.func38, Try.ntmps38
    go_wp2_with fail
    go_ret
    exact ⟨_, rfl, HR.out, rfl⟩
theorem own_caps {w : World} {base g n c : Nat} {e : TypeId} {xs : List Value} (h : w.ownsRow base e 1 (.slice (some ⟨g, 0, none⟩) n c) n xs) : n ≤ c ∧ c ≤ 9223372036854775807 := by
  rcases h.2 with ⟨e, _⟩ | ⟨g1, c1, cur1, e, _, _, h1, h2, _⟩
  · cases e
  · cases e; exact ⟨h1, by unfold maxLen at h2; omega⟩
/-- A list that grows in memory of its own. -/
def RowAt (w : World) (L : Nat → Nat) (j g cap : Nat) (wr : World) : Prop := wr.ownsRow w.heap.size 23 1 (.slice (some ⟨g, 0, none⟩) j cap) j (fltL L j) ∧ Below w.heap.size w wr
theorem RowAt.start (w : World) (L : Nat → Nat) : RowAt w L 0 w.heap.size 0 (w.alloc (.cells #[] 23)) :=
  ⟨World.ownsRow_lit (base := w.heap.size) w #[] 0 (by simp) (by unfold maxLen; omega) rfl, belowAlloc (Below.refl _ _) _⟩
theorem RowAt.drewN {w wr : World} {L : Nat → Nat} {j g cap : Nat} (h : RowAt w L j g cap wr) (m : Nat) : RowAt w L j g cap (wr.drewN m) :=
  ⟨ownsBelow h.1 (below_drewN (Below.refl _ _) m), below_drewN h.2 m⟩
theorem RowAt.next {w wr w2 : World} {L : Nat → Nat} {j g cap g2 cap2 : Nat} (h : RowAt w L j g cap wr)
    (hown : w2.ownsRow w.heap.size 23 1 (.slice (some ⟨g2, 0, none⟩) (j + 1) cap2) (j + 1) (fltL L j ++ [.float .f32 (L j)]))
    (hg : (wr.alloc (.cells #[.float .f32 (L j)] 23)).grownBy w2 (Value.slice (some ⟨g, 0, none⟩) j cap).ownBlock) : RowAt w L (j + 1) g2 cap2 w2 := by
  obtain ⟨ho, hb⟩ := h
  have := hb.size
  exact ⟨by rw [fltL_succ]; exact hown, Below.grown (belowAlloc hb _) hg (by simp; omega) (fun q hq => (ho.lt q hq).1)⟩
theorem sum_of (b o n c : Nat) (L : Nat → Nat) (hn : n ≤ 256) (w : World) (hc : FS w b o n L) :
    Calls Try.prog 20 #[.slice (some ⟨b, o, none⟩) n c] w fun e w' => ∃ r m, e = .returned (.tuple #[.float .f32 r, .bool true]) ∧ Same .f32 r (sumF L n) ∧ w' = w.drewN m := by
  have h := impl_SumNumbers b o n c L (by omega) w hc
  rw [if_pos hn, decide_eq_true hn] at h
  exact h
theorem dot_of (b1 o1 c1 n b2 o2 c2 : Nat) (L M : Nat → Nat) (hn : n ≤ 256) (w : World) (h1 : FS w b1 o1 n L) (h2 : FS w b2 o2 n M) :
    Calls Try.prog 16 #[.slice (some ⟨b1, o1, none⟩) n c1, .slice (some ⟨b2, o2, none⟩) n c2] w fun e w' => ∃ r m, e = .returned (.tuple #[.float .f32 r, .bool true]) ∧ Same .f32 r (dotF L M n) ∧ w' = w.drewN m := by
  have h := impl_DotNumbers b1 o1 c1 n b2 o2 c2 n L M (by omega) (by omega) w h1 h2
  rw [if_pos ⟨hn, rfl⟩, decide_eq_true ⟨hn, rfl⟩] at h
  exact h
theorem pairs_at (b o n c : Nat) (L : Nat → Nat) (p : Nat) (hn : n ≤ 256) (hnc : n ≤ c) (hcm : c ≤ 9223372036854775807) (w : World) (hc : FS w b 0 p L) (hp : o + n ≤ p) :
    Calls Try.prog 22 #[.slice (some ⟨b, o, none⟩) n c] w fun e w' => ∃ r m, e = .returned (.tuple #[.float .f32 r, .bool true]) ∧ Same .f32 r (pairF L n o n) ∧ w' = w.drewN m :=
  impl_SumPairs_at b o n c L hn hnc hcm w (fun i h1 h2 => by have := hc i (by omega); rwa [Nat.zero_add] at this)
theorem pairs_nil (a : Option Addr) (c : Nat) (w : World) :
    Calls Try.prog 22 #[.slice a 0 c] w fun e w' => e = .returned (.tuple #[.float .f32 0, .bool true]) ∧ w' = w := by
  have hs : ∀ v : World, Calls Try.prog 61 #[.slice a 0 c] v fun e v' => e = .returned (.float .f32 0) ∧ v' = v := by
    intro v
    go_enter Try.func61, Try.ntmps61
    go_wp2_with fail
    go_ret
    exact ⟨rfl, rfl⟩
  have HS := Lib.hid hs
  clear hs
  go_enter Try.func22, Try.ntmps22
  go_wp2_with (go_at_call 61; refine (HS.out _).mono ?_; rintro e w' ⟨rfl, rfl⟩)
  go_ret2
  exact ⟨rfl, rfl⟩
theorem sq_bound {z : Nat → Int} (h : ∀ i, (z i).natAbs ≤ 100) : ∀ i, ((fun i => z i * z i) i).natAbs ≤ 10000 := fun i => by
  show (z i * z i).natAbs ≤ 10000
  rw [Int.natAbs_mul]
  exact Nat.mul_le_mul (h i) (h i)
theorem num_of {r X Y : Nat} (h : Same .f32 r X) (e : X = Y) (hn : nanB .f32 Y = false) : r = Y := by
  subst e
  exact Same.num h hn
theorem K_self (S : Int) (h : S.natAbs < 16777216) : FloatKind.f32.format.order (K Ieee.single S) (K Ieee.single S) = some .eq := by rw [order_self, K_num h]; rfl
theorem own_new (w : World) (m : Nat) : ((w.drewN m).alloc (.cells #[] 23)).ownsRow w.heap.size 23 1 (.slice (some ⟨w.heap.size, 0, none⟩) 0 0) 0 [] :=
  World.ownsRow_lit (base := w.heap.size) (w.drewN m) #[] 0 (by simp) (by unfold maxLen; omega) rfl
theorem own_some {w : World} {base n : Nat} {e : TypeId} {v : Value} {xs : List Value} (h : w.ownsRow base e 1 v n xs) (hv : ¬ v = .slice none 0 0) : ∃ g c, v = .slice (some ⟨g, 0, none⟩) n c := by
  rcases Go.Joins.ownsRow_forms h with ⟨e, _⟩ | ⟨g, c, e⟩
  · exact absurd e hv
  · exact ⟨g, c, e⟩
theorem K_num64 {k : Int} (hk : k.natAbs < 16777216) : nanB .f64 (K Ieee.double k) = false := by rw [← cv_K hk, nanB_cv]; exact K_num hk
theorem wide_of {u X r : Nat} {Q : Int} (h : Same .f64 u X) (e : X = K Ieee.double Q) (hk : Q.natAbs < 16777216) (hn : Narrow u r) : r = K Ieee.single Q := by
  have hu : u = K Ieee.double Q := by subst e; exact Same.num h (K_num64 hk)
  subst hu
  exact hn.2 _ (nar_K hk)
theorem conv_fin : ∀ i : Fin 201, floatToIntVal .f32 (K Ieee.single ((i.val : Int) - 100)) .i64 = some ((i.val : Int) - 100) := by decide +kernel
theorem conv_int {k : Int} (hk : k.natAbs ≤ 100) (v : World) : (convert 23 2 (.float .f32 (K Ieee.single k))).run Try.prog v = .ok (.int .i64 k) v := by
  have h := conv_fin ⟨(k + 100).toNat, by omega⟩
  have e : (((k + 100).toNat : Nat) : Int) - 100 = k := by omega
  simp only [e] at h
  exact run_convert_float_int v _ _ .f32 .i64 _ _ (by rw [Try.underlying23]; rfl) Try.underlying2 h
end Go.Proofs.Ytcmmafkmfahijaa
