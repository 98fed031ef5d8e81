/- Contracts: a number's text in decimal, the reference's. Conditions: none. -/
import Derived.Test.YtepjhfigkfpheaaDoorChecked
import Derived.WalkKit
import Derived.WalkLawsBesides
import Derived.WalkSpells
import Derived.Laws.Externs
import Derived.Laws.IdiomStrings
import Derived.Deep.AppendLies
import Derived.Lib.Hide
import Derived.Lib.ItoaLen
import Derived.Outline
import Derived.LoopTactic
namespace Go.Proofs.YtepjhfigkfpheaaDoor
open Go.RowKit Go.Lib

/-- The cells of bytes. -/
def byL (l : List UInt8) : List Value := l.map fun b => .int .u8 (b.toNat : Int)
theorem byL_length (l : List UInt8) : (byL l).length = l.length := by simp [byL]
theorem byL_append (a b : List UInt8) : byL (a ++ b) = byL a ++ byL b := by simp [byL]
theorem byL_one (l : List UInt8) : ∀ u ∈ byL l, u.oneCell' = true := by
  intro u hu; simp [byL] at hu; obtain ⟨b, _, rfl⟩ := hu; rfl
/-- How far the loop of the digits has come. -/
def Goes (m u : Nat) (l : List UInt8) : Prop := (l = [] ∧ u = m) ∨ (l ≠ [] ∧ ((u = 0 ∧ decDigits m = l) ∨ (u ≠ 0 ∧ decDigits m = decDigits u ++ l)))
theorem decDigits_len (u : Nat) (h : u < 18446744073709551616) : (decDigits u).length ≤ 20 := by rw [decDigits_length]; exact nDigits_le20 u h
theorem Goes.len {m u : Nat} {l : List UInt8} (hm : m < 18446744073709551616) (h : Goes m u l) : l.length ≤ 20 := by
  have := decDigits_len m hm
  rcases h with ⟨rfl, _⟩ | ⟨_, ⟨_, e⟩ | ⟨_, e⟩⟩
  · simp
  · rw [← e]; exact this
  · rw [e] at this; simp at this; omega
theorem Goes.step {m u : Nat} {l : List UInt8} (h : Goes m u l) (hs : l = [] ∨ u ≠ 0) : Goes m (u / 10) (UInt8.ofNat (48 + u % 10) :: l) := by
  have key : ∀ x, decDigits m = decDigits u ++ x → (u / 10 = 0 ∧ decDigits m = UInt8.ofNat (48 + u % 10) :: x) ∨ (u / 10 ≠ 0 ∧ decDigits m = decDigits (u / 10) ++ UInt8.ofNat (48 + u % 10) :: x) := fun x e => by
    by_cases h10 : u < 10
    · left; refine ⟨by omega, ?_⟩; rw [e, decDigits, dif_pos h10, Nat.mod_eq_of_lt h10]; rfl
    · right; refine ⟨by omega, ?_⟩; rw [e, decDigits, dif_neg h10]; simp
  refine .inr ⟨by simp, ?_⟩
  rcases h with ⟨rfl, rfl⟩ | ⟨hne, ⟨h0, e⟩ | ⟨h0, e⟩⟩
  · exact key [] (by simp)
  · rcases hs with hs | hs
    · exact absurd hs hne
    · exact absurd h0 hs
  · exact key l e
theorem dig_pos {r : Int} (h : 0 ≤ r.tmod 10) : wrap64 (48 + r.tmod 10) % 256 = ((UInt8.ofNat (48 + r.natAbs % 10)).toNat : Int) := by
  have e : (UInt8.ofNat (48 + r.natAbs % 10)).toNat = 48 + r.natAbs % 10 := by rw [UInt8.toNat_ofNat']; omega
  rw [e]
  rw [tmod_eq_if] at h ⊢
  unfold wrap64
  obtain ⟨u, rfl | rfl⟩ : ∃ u : Nat, r = u ∨ r = -(u : Int) := ⟨r.natAbs, Int.natAbs_eq r⟩
  · simp only [Int.natAbs_natCast, if_pos (show (0 : Int) ≤ (u : Int) by omega)] at *; omega
  · simp only [Int.natAbs_neg, Int.natAbs_natCast] at *
    by_cases h1 : (0 : Int) ≤ -(u : Int)
    · rw [if_pos h1] at *; omega
    · rw [if_neg h1] at *; omega
theorem dig_neg {r : Int} (h : r.tmod 10 < 0) : wrap64 (48 + wrap64 (-r.tmod 10)) % 256 = ((UInt8.ofNat (48 + r.natAbs % 10)).toNat : Int) := by
  have e : (UInt8.ofNat (48 + r.natAbs % 10)).toNat = 48 + r.natAbs % 10 := by rw [UInt8.toNat_ofNat']; omega
  rw [e]
  rw [tmod_eq_if] at h ⊢
  unfold wrap64
  obtain ⟨u, rfl | rfl⟩ : ∃ u : Nat, r = u ∨ r = -(u : Int) := ⟨r.natAbs, Int.natAbs_eq r⟩
  · simp only [Int.natAbs_natCast, if_pos (show (0 : Int) ≤ (u : Int) by omega)] at *; omega
  · simp only [Int.natAbs_neg, Int.natAbs_natCast] at *
    by_cases h1 : (0 : Int) ≤ -(u : Int)
    · rw [if_pos h1] at *; omega
    · rw [if_neg h1] at *; omega
theorem quo_abs (r : Int) : (r.tdiv 10).natAbs = r.natAbs / 10 := by rw [tdiv_eq_if]; split <;> omega
theorem quo_sign (r : Int) : (0 ≤ r → 0 ≤ r.tdiv 10) ∧ (r ≤ 0 → r.tdiv 10 ≤ 0) := by rw [tdiv_eq_if]; constructor <;> (intro h; split <;> omega)
/-- A slice's length. -/
def vlen : Value → Nat
  | .slice _ n _ => n
  | _ => 0
theorem belowAlloc {B : Nat} {w w' : World} (h : Below B w w') (o : Obj) (hB : B ≤ w.heap.size := by omega) : Below B w (w'.alloc o) := Below.alloc h (Nat.le_trans hB h.size) o
theorem infoB : (Tryd.prog.info? 5).map (fun i => (i.zero, i.size, i.bytes)) = some (some (.int .u8 0), 1, 1) := by kernel_rfl

theorem ownNews {w : World} {base g n cap : Nat} {e : TypeId} {xs : List Value} (h : w.ownsRow base e 1 (.slice (some ⟨g, 0, none⟩) n cap) n xs) (o : Obj) : ∀ j u, xs[j]? = some u → (w.alloc o).cell? ((⟨g, 0, none⟩ : Addr).add j) = some u := (h.alloc o).cells (g := g) rfl
theorem convOwn {w : World} {base g n cap : Nat} {l : List UInt8} {xs : List Value} (h : w.ownsRow base 5 1 (.slice (some ⟨g, 0, none⟩) n cap) n xs) (hx : xs = byL l) (hn : n = l.length) :
    (convert 50 9 (.slice (some ⟨g, 0, none⟩) n cap)).run Tryd.prog w = .ok (.string ⟨l.toArray⟩) w := by
  subst hx; subst hn
  refine run_convert_bytes_back w _ _ _ _ cap l Tryd.underlying50 Tryd.underlying5 Tryd.underlying9 ?_
  intro j hj
  exact h.cells (g := g) rfl j _ (by simp [byL, hj])
theorem decRel {w wr w1 : World} {n r : Int} {l : List UInt8} {g c : Nat} {x : Int} {v : Value}
    (H : Hid (wr.ownsRow w.heap.size 5 1 (.slice (some ⟨g, 0, none⟩) l.length c) l.length (byL l) ∧ (∃ g' c', Value.slice (some ⟨g, 0, none⟩) l.length c = .slice (some ⟨g', 0, none⟩) l.length c') ∧ Below w.heap.size w wr ∧ Goes n.natAbs r.natAbs l ∧ (0 ≤ n → 0 ≤ r) ∧ (n < 0 → r ≤ 0) ∧ -9223372036854775808 ≤ r ∧ r ≤ 9223372036854775807))
    (hs : l = [] ∨ r ≠ 0) (hown : w1.ownsRow w.heap.size 5 1 v (1 + l.length) ([.int .u8 x] ++ byL l)) (hb : Below w.heap.size w w1) (hx : x = ((UInt8.ofNat (48 + r.natAbs % 10)).toNat : Int)) :
    ∃ (l' : List UInt8) (r' : Int), Value.int .i64 (r.tdiv 10) = .int .i64 r' ∧ Hid (w1.ownsRow w.heap.size 5 1 v l'.length (byL l') ∧ (∃ g' c', v = .slice (some ⟨g', 0, none⟩) l'.length c') ∧ Below w.heap.size w w1 ∧ Goes n.natAbs r'.natAbs l' ∧ (0 ≤ n → 0 ≤ r') ∧ (n < 0 → r' ≤ 0) ∧ -9223372036854775808 ≤ r' ∧ r' ≤ 9223372036854775807) := by
  obtain ⟨_, _, _, hg, hp, hn, hb0, hb1⟩ := H.out
  subst hx
  have hl : (UInt8.ofNat (48 + r.natAbs % 10) :: l).length = 1 + l.length := by simp; omega
  refine ⟨UInt8.ofNat (48 + r.natAbs % 10) :: l, r.tdiv 10, rfl, Lib.hid ⟨?_, ?_, hb, ?_, fun h => (quo_sign r).1 (hp h), fun h => (quo_sign r).2 (hn h), by have := quo_abs r; omega, by have := quo_abs r; omega⟩⟩
  · rw [hl]; exact hown
  · rw [hl]; obtain ⟨g', c', rfl, _⟩ := hown.form (by omega); exact ⟨g', c', rfl⟩
  · rw [quo_abs]; exact hg.step (by rcases hs with h | h; exact .inl h; exact .inr (by omega))
theorem itoa_end {n : Int} {l : List UInt8} (h : Goes n.natAbs 0 l) (hl : l ≠ []) : (n < 0 → itoa n = 45 :: l) ∧ (0 ≤ n → itoa n = l) := by
  have e : decDigits n.natAbs = l := by
    rcases h with ⟨h, _⟩ | ⟨_, ⟨_, e⟩ | ⟨h, _⟩⟩
    · exact absurd h hl
    · exact e
    · exact absurd rfl h
  constructor
  · intro h; unfold itoa; rw [if_pos h, e]
  · intro h; unfold itoa; rw [if_neg (by omega), show n.toNat = n.natAbs by omega, e]
set_option maxRecDepth 20000 in
theorem spec_l01Dec (n : Int) (h0 : -9223372036854775808 ≤ n) (h1 : n ≤ 9223372036854775807) (w : World) :
    Calls Tryd.prog 27 #[.int .i64 n] w fun e w' => e = .returned (.string ⟨(itoa n).toArray⟩) ∧ Below w.heap.size w w' := by
  obtain ⟨i0, hi0, hz0, hz1, hz2⟩ := info_parts infoB
  go_enter Tryd.func27, Tryd.ntmps27
  go_wp2_with fail
  go_loopw [3, 4] (fun v i wr => ∃ (l : List UInt8) (r : Int), i = .int .i64 r ∧ Hid (wr.ownsRow w.heap.size 5 1 v l.length (byL l) ∧ (∃ g c, v = .slice (some ⟨g, 0, none⟩) l.length c) ∧ Below w.heap.size w wr ∧ Goes n.natAbs r.natAbs l ∧ (0 ≤ n → 0 ≤ r) ∧ (n < 0 → r ≤ 0) ∧ -9223372036854775808 ≤ r ∧ r ≤ 9223372036854775807)) (fun v i _ => (intOf i).natAbs + (if vlen v = 0 then 1 else 0))
  case atStart =>
    exact ⟨[], n, rfl, Lib.hid ⟨World.ownsRow_lit (base := w.heap.size) w #[] 0 (by simp) (by unfold maxLen; omega) rfl, ⟨_, _, rfl⟩, belowAlloc (Below.refl _ _) _, .inl ⟨rfl, rfl⟩, id, fun h => by omega, h0, h1⟩⟩
  case round =>
    obtain ⟨l, r, rfl, H⟩ := hrel
    obtain ⟨g, c, rfl⟩ := H.out.2.1
    have hll := (H.out.2.2.2.1).len (by omega)
    have hsz := H.out.2.2.1.size
    have hr0 := H.out.2.2.2.2.2.2
    by_cases hl : l = []
    · subst hl
      go_wp2_with fail
      all_goals go_roundw
      all_goals first
        | (exact decRel H (.inl rfl) (World.ownsRow_lit (base := w.heap.size) wr #[_] 1 hsz (by unfold maxLen; omega) rfl) (belowAlloc H.out.2.2.1 _) (by first | exact dig_neg (by assumption) | exact dig_pos (by assumption)))
        | (show ((r.tdiv 10).natAbs + if (1 : Nat) = 0 then 1 else 0) < r.natAbs + if (0 : Nat) = 0 then 1 else 0; rw [quo_abs, if_neg (by omega), if_pos rfl]; omega)
    · have hlp : 0 < l.length := by cases l; exact absurd rfl hl; simp
      have t1 : ((l.length : Int) == 0) = false := by simp; omega
      have HO := Lib.hid H.out.1
      by_cases hr : r = 0
      · subst hr
        have he := itoa_end H.out.2.2.2.1 hl
        have hcv := convOwn H.out.1 rfl rfl
        rcases Int.lt_or_le n 0 with hn | hn
        · go_wp2_with (first | (at_builtin; refine wpList_append_own _ rfl _ _ 50 rfl w.heap.size 5 i0 (.int .u8 0) 1 1 Tryd.underlying50 hi0 hz0 hz1 hz2 rfl (by decide) _ 1 _ rfl (World.ownsRow_lit (base := w.heap.size) wr _ 1 hsz (by unfold maxLen; omega) rfl) ⟨g, 0, none⟩ l.length c (byL l) rfl (by rw [byL_length]; omega) (ownNews HO.out _) (byL_one l) (by unfold maxLen; omega) (by omega) (by simp; omega) ?_; intro v' w1 hown1 hgrow _; obtain ⟨g1, c1, rfl, _, _⟩ := hown1.form (by omega); have HG := Lib.hid hgrow; clear hgrow; have hcv1 := convOwn hown1 (l := 45 :: l) rfl (by simp; omega); have HO1 := Lib.hid hown1; clear hown1))
          refine bodyPost_ret (v := .string ⟨(45 :: l).toArray⟩) (by simp [results, Tryd.results27, go_sem]) rfl ?_
          exact ⟨by first | rw [he.1 hn] | rfl, Below.grown (belowAlloc H.out.2.2.1 _) HG.out (by simp; omega) (fun k hk => by cases hk; exact hsz)⟩
        · go_wp2_with fail
          refine bodyPost_ret (v := .string ⟨l.toArray⟩) (by simp [results, Tryd.results27, go_sem]) rfl ?_
          exact ⟨by first | rw [he.2 hn] | rfl, H.out.2.2.1⟩
      · have t2 : (r != 0) = true := by simpa using hr
        go_wp2_with (first | (at_builtin; refine wpList_append_own _ rfl _ _ 50 rfl w.heap.size 5 i0 (.int .u8 0) 1 1 Tryd.underlying50 hi0 hz0 hz1 hz2 rfl (by decide) _ 1 _ rfl (World.ownsRow_lit (base := w.heap.size) wr _ 1 hsz (by unfold maxLen; omega) rfl) ⟨g, 0, none⟩ l.length c (byL l) rfl (by rw [byL_length]; omega) (ownNews HO.out _) (byL_one l) (by unfold maxLen; omega) (by omega) (by simp; omega) ?_; intro v' w1 hown1 hgrow _; have HG := Lib.hid hgrow; clear hgrow; have HO1 := Lib.hid hown1; clear hown1))
        all_goals go_roundw
        all_goals first
          | (exact decRel H (.inr hr) HO1.out (Below.grown (belowAlloc H.out.2.2.1 _) HG.out (by simp; omega) (fun k hk => by cases hk; exact hsz)) (by first | exact dig_neg (by assumption) | exact dig_pos (by assumption)))
          | (obtain ⟨g1, c1, rfl, _, _⟩ := HO1.out.form (by omega); show ((r.tdiv 10).natAbs + if 1 + l.length = 0 then 1 else 0) < r.natAbs + if l.length = 0 then 1 else 0; rw [quo_abs, if_neg (by omega), if_neg (by omega)]; have : r.natAbs ≠ 0 := by omega
             omega)
end Go.Proofs.YtepjhfigkfpheaaDoor
