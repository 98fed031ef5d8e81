/- Contracts: the text of a list of integers, the program's. Conditions: the library's table of tens holds what its text lays. -/
import Derived.Test.YtepjhfigkfpheaaDoorLt
namespace Go.Proofs.YtepjhfigkfpheaaDoor
open Go.RowKit Go.Lib

/-- The cells of the integers' texts. -/
def txL (L : Nat → Int) (k : Nat) : List Value := (List.range k).map fun j => .string ⟨(itoa (L j)).toArray⟩
theorem txL_length (L : Nat → Int) (k : Nat) : (txL L k).length = k := by simp [txL]
theorem txL_succ (L : Nat → Int) (k : Nat) : txL L (k + 1) = txL L k ++ [.string ⟨(itoa (L k)).toArray⟩] := by simp [txL, List.range_succ]
theorem txL_one (L : Nat → Int) (k : Nat) : ∀ u ∈ txL L k, u.oneCell' = true := by
  intro u hu; simp [txL] at hu; obtain ⟨b, _, rfl⟩ := hu; rfl
theorem infoS : (Tryd.prog.info? 9).map (fun i => (i.zero, i.size, i.bytes)) = some (some (.string ⟨#[]⟩), 1, 16) := by kernel_rfl
theorem impl_joined (L : Nat → Int) (n : Nat) (g c : Nat) (h1 : 1 ≤ n) (hn : n ≤ 64) (hc : n ≤ c) (hin : inTo L n) (w : World) (hcells : ∀ j u, (txL L n)[j]? = some u → w.cell? ⟨g, j, none⟩ = some u) (hg : g < w.heap.size) :
    Calls Tryd.prog 22 #[.slice (some ⟨g, 0, none⟩) n c] w fun e w' => e = .returned (.string ⟨(txt L n).toArray⟩) ∧ Below w.heap.size w w' := by
  have tl := txt_len L n hin
  have hj : Calls Tryd.prog 31 #[.slice (some ⟨g, 0, none⟩) n c, .string ⟨#[44]⟩] w fun e w' => e = .returned (.string ⟨(txt L n).toArray⟩) ∧ Below w.heap.size w w' := by
    have e : ((List.range n).map fun j => (⟨(itoa (L j)).toArray⟩ : ByteArray)).length = n := by simp
    have e2 : join (((List.range n).map fun j => (⟨(itoa (L j)).toArray⟩ : ByteArray)).map (·.data.toList)) (⟨#[44]⟩ : ByteArray).data.toList = txt L n := by
      rw [← join_txt, List.map_map]; rfl
    have := Tryd.strings_Join g 0 c ((List.range n).map fun j => (⟨(itoa (L j)).toArray⟩ : ByteArray)) ⟨#[44]⟩ w (by
      intro j x hx
      rw [Nat.zero_add]
      refine hcells j _ ?_
      simp only [txL, List.getElem?_map, Option.map_eq_some_iff] at hx ⊢
      obtain ⟨i, hi, rfl⟩ := hx
      exact ⟨i, hi, rfl⟩) hg (by rw [e]; omega) (by rw [e]; omega) (by rw [e2]; omega)
    rw [e, e2] at this
    exact this
  go_enter Tryd.func22, Tryd.ntmps22
  go_wp2_with (go_at_call 31; refine hj.mono ?_; rintro e w' ⟨rfl, hbel⟩)
  go_ret
  exact ⟨rfl, hbel⟩
theorem impl_joined_nil (a : Option Addr) (c : Nat) (w : World) :
    Calls Tryd.prog 22 #[.slice a 0 c] w fun e w' => e = .returned (.string ⟨#[110, 111, 110, 101]⟩) ∧ w' = w := by
  go_enter Tryd.func22, Tryd.ntmps22
  go_wp2_with fail
  go_ret
  exact ⟨rfl, rfl⟩
theorem impl_ListText_long (a : Option Addr) (n c : Nat) (hn : 64 < n) (hm : n ≤ 1048576) (w : World) :
    Calls Tryd.prog 9 #[.slice a n c] w fun e w' => e = .returned (.tuple #[.string ⟨#[]⟩, .bool false]) ∧ Below w.heap.size w w' := by
  go_enter Tryd.func9, Tryd.ntmps9
  go_wp2_with fail
  go_ret2
  exact ⟨rfl, Below.refl _ _⟩
theorem impl_ListText_nil (a : Option Addr) (c : Nat) (w : World) :
    Calls Tryd.prog 9 #[.slice a 0 c] w fun e w' => e = .returned (.tuple #[.string ⟨#[110, 111, 110, 101]⟩, .bool true]) ∧ Below w.heap.size w w' := by
  go_enter Tryd.func9, Tryd.ntmps9
  go_wp2_with fail
  go_loopw [4, 13] (fun v i wr => v = .slice (some ⟨w.heap.size, 0, none⟩) 0 0 ∧ i = .int .i64 0 ∧ Below w.heap.size w wr) (fun _ _ _ => 0)
  case atStart => exact ⟨rfl, rfl, belowAlloc (Below.refl _ _) _⟩
  case round =>
    obtain ⟨rfl, rfl, hbl⟩ := hrel
    have HB := Lib.hid hbl
    clear hbl
    go_wp2_with (go_at_call 22; refine (impl_joined_nil _ _ _).mono ?_; rintro e w' ⟨rfl, rfl⟩)
    go_ret2
    exact ⟨rfl, HB.out⟩
theorem ownsBelow {B : Nat} {e : TypeId} {k : Nat} {v : Value} {n : Nat} {xs : List Value} {w w' : World} (h : w.ownsRow B e k v n xs) (hb : Below w.heap.size w w') : w'.ownsRow B e k v n xs :=
  h.kept (row := none) ⟨hb.os, hb.tape, hb.output, hb.size, fun j hj _ => hb.block j hj⟩ (by cases hv : v.ownBlock <;> simp)
/-- Where the loop of the texts stands. -/
def LtAt (w : World) (L : Nat → Int) (k : Nat) (v : Value) (wr : World) : Prop :=
  wr.ownsRow w.heap.size 9 1 v k (txL L k) ∧ (∃ g c, v = .slice (some ⟨g, 0, none⟩) k c ∧ k ≤ c ∧ g < wr.heap.size) ∧ Below w.heap.size w wr ∧ inTo L k
theorem LtAt.start (w : World) (L : Nat → Int) : LtAt w L 0 (.slice (some ⟨w.heap.size, 0, none⟩) 0 0) (w.alloc (.cells #[] 9)) :=
  ⟨World.ownsRow_lit (base := w.heap.size) w #[] 0 (by simp) (by unfold maxLen; omega) rfl, ⟨_, _, rfl, Nat.le_refl _, by simp⟩, belowAlloc (Below.refl _ _) _, inTo_zero L⟩
theorem LtAt.next {w wr w1 w2 : World} {L : Nat → Int} {k : Nat} {v v' : Value} (h : LtAt w L k v wr) (hb : Below wr.heap.size wr w1) (h0 : -1000000000000000 ≤ L k) (h1 : L k ≤ 1000000000000000)
    (hown : w2.ownsRow w.heap.size 9 1 v' (k + 1) (txL L k ++ [.string ⟨(itoa (L k)).toArray⟩])) (hg : (w1.alloc (.cells #[.string ⟨(itoa (L k)).toArray⟩] 9)).grownBy w2 v.ownBlock) : LtAt w L (k + 1) v' w2 := by
  obtain ⟨ho, ⟨g, c, rfl, hc, hgl⟩, hbl, hin⟩ := h
  have hB := hbl.size
  have hB1 := hb.size
  refine ⟨by rw [txL_succ]; exact hown, ?_, ?_, inTo_succ hin h0 h1⟩
  · obtain ⟨g', c', rfl, _⟩ := hown.form (by omega)
    have := hown.lt g' rfl
    refine ⟨g', c', rfl, ?_, this.2⟩
    rcases hown.2 with ⟨h, _⟩ | ⟨g2, c2, cur, h, _, _, hle, _⟩
    · cases h
    · cases h; exact hle
  · exact Below.grown (belowAlloc (belowN hbl hb) _) hg (by simp; omega) (fun j hj => (ho.lt j hj).1)
set_option maxRecDepth 20000 in
theorem impl_ListText (b o n c : Nat) (L : Nat → Int) (h1 : 1 ≤ n) (hn : n ≤ 64) (w : World) (hc : IS w b o n L) (hb : b < w.heap.size) (ht : Tens w) :
    Calls Tryd.prog 9 #[.slice (some ⟨b, o, none⟩) n c] w fun e w' => e = .returned (.tuple #[.string (ltS L n), .bool (okL L n)]) ∧ Below w.heap.size w w' := by
  obtain ⟨i0, hi0, hz0, hz1, hz2⟩ := info_parts infoS
  have hend : ∀ k, k ≤ n → ¬ k < n → inTo L k → (.tuple #[.string (ltS L n), .bool (okL L n)] : Value) = .tuple #[.string ⟨(txt L n).toArray⟩, .bool true] := fun k h1' h2' hin => by
    obtain rfl : k = n := by omega
    have hok : okL L k = true := by rw [okL_good hin]; simpa using hn
    unfold ltS; rw [if_pos hok, if_neg (by omega), hok]
  have hbad : ∀ k, k < n → ¬ (-1000000000000000 ≤ L k ∧ L k ≤ 1000000000000000) → (.tuple #[.string (ltS L n), .bool (okL L n)] : Value) = .tuple #[.string ⟨#[]⟩, .bool false] := fun k hk hr => by
    have hok := okL_bad hk hr
    unfold ltS; rw [hok, if_neg (by simp)]
  generalize (.tuple #[.string (ltS L n), .bool (okL L n)] : Value) = R at *
  go_enter Tryd.func9, Tryd.ntmps9
  go_wp2_with fail
  go_loopw [4, 13] (fun v i wr => ∃ k : Nat, k ≤ n ∧ i = .int .i64 k ∧ LtAt w L k v wr) (fun _ i _ => n - (RowKit.intOf i).toNat)
  case atStart => exact ⟨0, Nat.zero_le _, rfl, LtAt.start w L⟩
  case round =>
    obtain ⟨k, hk, rfl, H⟩ := hrel
    obtain ⟨g, c1, rfl, hkc, hgl⟩ := H.2.1
    have hsz := H.2.2.1.size
    have HH := Lib.hid H
    have HO := Lib.hid H.1
    by_cases hlt : k < n
    · have a1 : wr.cell? ⟨b, o + k, none⟩ = some (.int .i64 (L k)) := (H.2.2.1.cell (p := ⟨b, o + k, none⟩) hb).trans (hc k hlt)
      by_cases hr : -1000000000000000 ≤ L k ∧ L k ≤ 1000000000000000
      · have hib := inB_yes hr.1 hr.2
        have htk : Hid (Tens wr) := Lib.hid (ht.keep H.2.2.1)
        clear H
        go_wp2_with (first
          | (go_at_call 21; refine (impl_isValue _ _).mono ?_; rintro e w' ⟨rfl, rfl⟩)
          | (go_at_call 18; refine (impl_Decimal (L k) (by omega) (by omega) _ htk.out).mono ?_; rintro e w1 ⟨rfl, hb1⟩; have HB := Lib.hid hb1; have hs1 := hb1.size; clear hb1)
          | (at_builtin; refine wpList_append_own _ rfl _ _ 37 rfl w.heap.size 9 i0 (.string ⟨#[]⟩) 1 16 Tryd.underlying37 hi0 hz0 hz1 hz2 rfl (by decide) _ k _ rfl ((ownsBelow HO.out HB.out).alloc _) ⟨w1.heap.size, 0, none⟩ 1 1 [.string ⟨(itoa (L k)).toArray⟩] rfl rfl ?c1 ?c2 ?c3 ?c4 ?c5 ?_; rotate_left 5; intro v' w2 hown2 hgrow _; have HX := Lib.hid (HH.out.next HB.out hr.1 hr.2 hown2 hgrow); clear hown2 hgrow))
        case c1 =>
          intro j u hj
          match j, hj with
          | 0, hj => simp at hj; subst hj; simp [Addr.add]
        case c2 => intro u hu; simp at hu; subst hu; rfl
        case c3 => unfold maxLen; omega
        case c4 => omega
        case c5 => simp; omega
        all_goals
          go_roundw
          case rel => exact ⟨k + 1, by omega, by go_num, HX.out⟩
          case measure => simp [RowKit.intOf]; omega
      · have hib := inB_no hr
        have hR := hbad k hlt hr
        have HB := Lib.hid H.2.2.1
        clear H
        go_wp2_with (first
          | (go_at_call 21; refine (impl_isValue _ _).mono ?_; rintro e w' ⟨rfl, rfl⟩))
        go_ret2
        exact ⟨by rw [hR] <;> rfl, HB.out⟩
    · have hR := hend k hk hlt H.2.2.2
      obtain rfl : k = n := by omega
      have HC := H.1.cells (g := g) rfl
      have hj := impl_joined L k g c1 h1 hn hkc H.2.2.2 wr (fun j u hu => by have h2 := HC j u hu; rw [Go.WideShapes.add_plain, Nat.zero_add] at h2; exact h2) hgl
      have HB := Lib.hid H.2.2.1
      clear H HC
      go_wp2_with (go_at_call 22; refine hj.mono ?_; rintro e w' ⟨rfl, hbj⟩)
      go_ret2
      exact ⟨by rw [hR] <;> rfl, belowN HB.out hbj⟩
end Go.Proofs.YtepjhfigkfpheaaDoor
