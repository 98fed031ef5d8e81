/- Contracts: the integers of a text with commas, the reference's. Conditions: none. -/
import Derived.Test.YtepjhfigkfpheaaDoorRlP
import Derived.Test.YtepjhfigkfpheaaDoorLtI
namespace Go.Proofs.YtepjhfigkfpheaaDoor
open Go.RowKit Go.Lib

/-- The parts as cells. -/
def parL (D : List (List UInt8)) : List Value := D.map fun p => .string ⟨p.toArray⟩
theorem parL_length (D : List (List UInt8)) : (parL D).length = D.length := by simp [parL]
theorem parL_snoc (D : List (List UInt8)) (p : List UInt8) : parL (D ++ [p]) = parL D ++ [.string ⟨p.toArray⟩] := by simp [parL]
theorem cut_take {l : List UInt8} {f k : Nat} (hf : f ≤ k) (hk : k < l.length) (hno : ∀ j, f ≤ j → j < k → l[j]? ≠ some 44) (h : l[k]? = some 44) : cut (l.drop f) = (l.drop f).take (k - f) :: cut (l.drop (k + 1)) := by
  have e : l.drop f = (l.drop f).take (k - f) ++ 44 :: l.drop (k + 1) := by
    have h1 : (l.drop f).drop (k - f) = l.drop k := by rw [List.drop_drop]; congr 1; omega
    have h2 : l.drop k = 44 :: l.drop (k + 1) := by
      rw [List.drop_eq_getElem_cons hk]
      congr 1
      rw [List.getElem?_eq_getElem hk] at h
      exact Option.some.inj h
    rw [← h2, ← h1, List.take_append_drop]
  have hm : ∀ c ∈ (l.drop f).take (k - f), c ≠ 44 := by
    intro c hc
    obtain ⟨j, hj, rfl⟩ := List.mem_iff_getElem.1 hc
    simp only [List.length_take, List.length_drop] at hj
    intro hx
    refine hno (f + j) (by omega) (by omega) ?_
    rw [List.getElem?_eq_getElem (by omega)]
    simp only [List.getElem_take, List.getElem_drop] at hx
    rw [hx]
  conv => lhs; rw [e]
  exact cut_hit _ _ hm
theorem cut_rest {l : List UInt8} {f : Nat} (hno : ∀ j, f ≤ j → j < l.length → l[j]? ≠ some 44) : cut (l.drop f) = [l.drop f] := by
  refine cut_miss _ fun c hc => ?_
  obtain ⟨j, hj, rfl⟩ := List.mem_iff_getElem.1 hc
  simp only [List.length_drop] at hj
  intro hx
  refine hno (f + j) (by omega) (by omega) ?_
  rw [List.getElem?_eq_getElem (by omega)]
  simp only [List.getElem_drop] at hx
  rw [hx]
/-- How far the parts are cut. -/
def CutTo (l : List UInt8) (k f : Nat) (D : List (List UInt8)) : Prop :=
  (k ≤ l.length ∧ f ≤ k ∧ cut l = D ++ cut (l.drop f) ∧ ∀ j, f ≤ j → j < k → l[j]? ≠ some 44) ∨ (k = l.length + 1 ∧ f ≤ k ∧ cut l = D)
theorem CutTo.zero (l : List UInt8) : CutTo l 0 0 [] := .inl ⟨Nat.zero_le _, Nat.le_refl _, rfl, fun _ _ h => by omega⟩
theorem CutTo.pass {l : List UInt8} {k f : Nat} {D : List (List UInt8)} (h : CutTo l k f D) (hk : k < l.length) (hc : l[k]? ≠ some 44) : CutTo l (k + 1) f D := by
  rcases h with ⟨h1, h2, h3, h4⟩ | ⟨h1, _⟩
  · refine .inl ⟨by omega, by omega, h3, fun j hj hj2 => ?_⟩
    by_cases e : j = k
    · subst e; exact hc
    · exact h4 j hj (by omega)
  · omega
theorem CutTo.mark {l : List UInt8} {k f : Nat} {D : List (List UInt8)} (h : CutTo l k f D) (hk : k < l.length) (hc : l[k]? = some 44) : CutTo l (k + 1) (k + 1) (D ++ [(l.drop f).take (k - f)]) := by
  rcases h with ⟨h1, h2, h3, h4⟩ | ⟨h1, _⟩
  · refine .inl ⟨by omega, Nat.le_refl _, ?_, fun j _ _ => by omega⟩
    rw [h3, cut_take h2 hk h4 hc]; simp
  · omega
theorem CutTo.last {l : List UInt8} {f : Nat} {D : List (List UInt8)} (h : CutTo l l.length f D) : CutTo l (l.length + 1) (l.length + 1) (D ++ [(l.drop f).take (l.length - f)]) := by
  rcases h with ⟨h1, h2, h3, h4⟩ | ⟨h1, _⟩
  · refine .inr ⟨rfl, Nat.le_refl _, ?_⟩
    rw [h3, cut_rest h4, List.take_of_length_le (by simp)]
  · omega
theorem CutTo.done {l : List UInt8} {k f : Nat} {D : List (List UInt8)} (h : CutTo l k f D) (hk : l.length < k) : cut l = D ∧ k = l.length + 1 := by
  rcases h with ⟨h1, _⟩ | ⟨h1, _, h3⟩
  · omega
  · exact ⟨h3, h1⟩
theorem CutTo.from_le {l : List UInt8} {k f : Nat} {D : List (List UInt8)} (h : CutTo l k f D) : f ≤ k ∧ k ≤ l.length + 1 := by
  rcases h with ⟨h1, h2, _⟩ | ⟨h1, h2, _⟩ <;> omega
theorem CutTo.few {l : List UInt8} {k f : Nat} {D : List (List UInt8)} (h : CutTo l k f D) : D.length ≤ l.length + 1 := by
  have hl := cut_len l
  rcases h with ⟨_, _, h3, _⟩ | ⟨_, _, h3⟩
  · rw [h3] at hl; simp at hl; omega
  · rw [h3] at hl; exact hl
/-- Where the loop of the parts stands. -/
def CutAt (w : World) (l : List UInt8) (k f : Nat) (v : Value) (wr : World) : Prop :=
  ∃ D, wr.ownsRow w.heap.size 9 1 v D.length (parL D) ∧ (∃ g c, v = .slice (some ⟨g, 0, none⟩) D.length c ∧ D.length ≤ c ∧ g < wr.heap.size) ∧ Below w.heap.size w wr ∧ CutTo l k f D
theorem CutAt.start (w : World) (l : List UInt8) : CutAt w l 0 0 (.slice (some ⟨w.heap.size, 0, none⟩) 0 0) (w.alloc (.cells #[] 9)) :=
  ⟨[], World.ownsRow_lit (base := w.heap.size) w #[] 0 (by simp) (by unfold maxLen; omega) rfl, ⟨_, _, rfl, Nat.le_refl _, by simp⟩, belowAlloc (Below.refl _ _) _, CutTo.zero l⟩
theorem own_slice {w : World} {base : Nat} {e : TypeId} {v : Value} {n : Nat} {xs : List Value} (h : w.ownsRow base e 1 v n xs) (hn : 0 < n) : ∃ g c, v = .slice (some ⟨g, 0, none⟩) n c ∧ n ≤ c ∧ g < w.heap.size := by
  obtain ⟨g', c', rfl, _⟩ := h.form hn
  have := h.lt g' rfl
  refine ⟨g', c', rfl, ?_, this.2⟩
  rcases h.2 with ⟨h, _⟩ | ⟨g2, c2, cur, h, _, _, hle, _⟩
  · cases h
  · cases h; exact hle
theorem extract_bytes (s : ByteArray) (f k : Nat) : s.extract f k = ⟨((s.data.toList.drop f).take (k - f)).toArray⟩ := ((str_eq _ _).2 (extract_data s f k).symm).symm
theorem byte_at (s : ByteArray) (k : Nat) (hk : k < s.size) : s.data.toList[k]? = some s[k] := by
  rw [List.getElem?_eq_getElem (by simpa using hk)]; rfl
theorem byte_is {s : ByteArray} {k : Nat} (hk : k < s.size) (h : s[k].toNat = 44) : s.data.toList[k]? = some 44 := by
  rw [byte_at s k hk]; congr 1; exact UInt8.toNat_inj.1 h
theorem byte_not {s : ByteArray} {k : Nat} (hk : k < s.size) (h : ¬ s[k].toNat = 44) : s.data.toList[k]? ≠ some 44 := by
  rw [byte_at s k hk]; intro e; have := Option.some.inj e; rw [this] at h; exact h rfl
theorem CutAt.next {w wr w2 : World} {l p : List UInt8} {k f k2 f2 : Nat} {v v' : Value} {n : Nat} {x : ByteArray} (hx : x = ⟨p.toArray⟩) (h : CutAt w l k f v wr) (hst : ∀ D, CutTo l k f D → CutTo l k2 f2 (D ++ [p]))
    (hn : ∃ g c, v = .slice (some ⟨g, 0, none⟩) n c) (hown : ∀ xs : List Value, wr.ownsRow w.heap.size 9 1 v n xs → w2.ownsRow w.heap.size 9 1 v' (n + 1) (xs ++ [.string x]))
    (hg : (wr.alloc (.cells #[.string x] 9)).grownBy w2 v.ownBlock) : CutAt w l k2 f2 v' w2 := by
  subst hx
  obtain ⟨D, ho, ⟨g, c, rfl, hc, hgl⟩, hbl, ht⟩ := h
  obtain ⟨g', c', e⟩ := hn
  cases e
  have hB := hbl.size
  have hw := hown _ ho
  rw [← parL_snoc] at hw
  refine ⟨D ++ [p], by rw [List.length_append]; exact hw, ?_, ?_, hst D ht⟩
  · rw [List.length_append]; exact own_slice hw (by simp)
  · exact Below.grown (belowAlloc hbl _) hg (by simp; omega) (fun j hj => (ho.lt j hj).1)
theorem CutNext {w wr w2 : World} {l p : List UInt8} {k f k2 f2 g c : Nat} {D : List (List UInt8)} {v' : Value} {x : ByteArray} (hx : x = ⟨p.toArray⟩) (ho : wr.ownsRow w.heap.size 9 1 (.slice (some ⟨g, 0, none⟩) D.length c) D.length (parL D))
    (h : CutAt w l k f (.slice (some ⟨g, 0, none⟩) D.length c) wr) (hst : ∀ D, CutTo l k f D → CutTo l k2 f2 (D ++ [p]))
    (hown : w2.ownsRow w.heap.size 9 1 v' (D.length + 1) (parL D ++ [.string x]))
    (hg : (wr.alloc (.cells #[.string x] 9)).grownBy w2 (Value.slice (some ⟨g, 0, none⟩) D.length c).ownBlock) : CutAt w l k2 f2 v' w2 := by
  refine CutAt.next (n := D.length) hx h hst ⟨_, _, rfl⟩ (fun xs hxs => ?_) hg
  have : xs = parL D := by
    rcases hxs.2 with ⟨e, _⟩ | ⟨g1, c1, cur1, e, _, hb1, _, _, _, ht1⟩
    · cases e
    · cases e
      rcases ho.2 with ⟨e, _⟩ | ⟨g2, c2, cur2, e, _, hb2, _, _, _, ht2⟩
      · cases e
      · cases e
        rw [hb1] at hb2
        cases hb2
        rw [← ht1, ← ht2]
  rw [this]; exact hown
set_option maxRecDepth 20000 in
theorem spec_l01Cut (s : ByteArray) (hs : s.size ≤ 1048576) (w : World) :
    Calls Tryd.prog 34 #[.string s, .int .u8 44] w fun e w' => ∃ g c, e = .returned (.slice (some ⟨g, 0, none⟩) (cut s.data.toList).length c) ∧ (cut s.data.toList).length ≤ c ∧
      (∀ j u, (parL (cut s.data.toList))[j]? = some u → w'.cell? ⟨g, j, none⟩ = some u) ∧ (w.heap.size ≤ g ∧ g < w'.heap.size) ∧ Below w.heap.size w w' := by
  obtain ⟨i0, hi0, hz0, hz1, hz2⟩ := info_parts infoS
  have hll : s.data.toList.length = s.size := by simp
  go_enter Tryd.func34, Tryd.ntmps34
  go_wp2_with fail
  go_loopw [5, 6, 7] (fun v f i wr => ∃ k q : Nat, k ≤ s.size + 1 ∧ i = .int .i64 k ∧ f = .int .i64 q ∧ CutAt w s.data.toList k q v wr) (fun _ _ i _ => s.size + 1 - (RowKit.intOf i).toNat)
  case atStart => exact ⟨0, 0, Nat.zero_le _, rfl, rfl, CutAt.start w _⟩
  case round =>
    obtain ⟨k, q, hk, rfl, rfl, H⟩ := hrel
    obtain ⟨D, hD, ⟨g, c1, rfl, hkc, hgl⟩, hbl, hct⟩ := H
    have hsz := hbl.size
    have hfl := hct.from_le
    have hfw := hct.few
    rw [hll] at hfl hfw
    have hq := hfl.1
    clear hfl
    have HH : Hid (CutAt w s.data.toList k q (.slice (some ⟨g, 0, none⟩) D.length c1) wr) := Lib.hid ⟨D, hD, ⟨g, c1, rfl, hkc, hgl⟩, hbl, hct⟩
    have HO := Lib.hid hD
    have HD := Lib.hid hct
    have hx := extract_bytes s q k
    by_cases hlt : k < s.size
    · have hle : k ≤ s.size := by omega
      have hne : ¬ k = s.size := by omega
      by_cases hc : s[k].toNat = 44
      · have hm := Lib.hid (fun D (h : CutTo s.data.toList k q D) => h.mark (by rw [hll]; exact hlt) (byte_is hlt hc))
        clear hD hct hbl
        go_wp2_with (first
          | (at_builtin; (refine wpList_append_own _ rfl _ _ 37 rfl w.heap.size 9 i0 (.string ⟨#[]⟩) 1 16 Tryd.underlying37 hi0 hz0 hz1 hz2 rfl (by decide) (.slice (some ⟨g, 0, none⟩) D.length c1) D.length (parL D) rfl (HO.out.alloc _) ⟨wr.heap.size, 0, none⟩ 1 1 [.string ⟨((s.data.toList.drop q).take (k - q)).toArray⟩] rfl rfl ?c1 ?c2 ?c3 ?c4 ?c5 ?_; rotate_left 5; intro v' w2 hown2 hgrow _; have HX := Lib.hid (CutNext rfl HO.out HH.out hm.out hown2 hgrow); clear hown2 hgrow)))
        case c1 =>
          intro j u hj
          match j, hj with
          | 0, hj => simp at hj; subst hj; simp [Addr.add]
        case c2 => intro u hu; simp at hu; subst hu; rfl
        case c3 => unfold maxLen; omega
        case c4 => omega
        case c5 => simp; omega
        all_goals
          go_roundw
          case rel => exact ⟨k + 1, k + 1, by omega, by go_num, by go_num, HX.out⟩
          case measure => simp [RowKit.intOf]; omega
      · have hc2 : ¬ ((s[k].toNat : Int) = 44) := by omega
        have hc3 : ((s[k].toNat : Int) == 44) = false := by simpa using hc2
        have hc4 : ((k : Int) == (s.size : Int)) = false := by simp; omega
        have hm := Lib.hid (hct.pass (by rw [hll]; exact hlt) (byte_not hlt hc))
        have HN : Hid (CutAt w s.data.toList (k + 1) q (.slice (some ⟨g, 0, none⟩) D.length c1) wr) := Lib.hid ⟨D, hD, ⟨g, c1, rfl, hkc, hgl⟩, hbl, hm.out⟩
        clear hD hct hbl
        go_wp2_with fail
        go_roundw
        case rel => exact ⟨k + 1, q, by omega, by go_num, rfl, HN.out⟩
        case measure => simp [RowKit.intOf]; omega
    · by_cases heq : k = s.size
      · subst heq
        have hle : s.size ≤ s.size := Nat.le_refl _
        have hm : Hid (∀ D, CutTo s.data.toList s.size q D → CutTo s.data.toList (s.size + 1) (s.size + 1) (D ++ [(s.data.toList.drop q).take (s.size - q)])) := Lib.hid (by have := fun D => CutTo.last (l := s.data.toList) (f := q) (D := D); rw [hll] at this; exact this)
        clear hD hct hbl
        go_wp2_with (first
          | (at_builtin; (refine wpList_append_own _ rfl _ _ 37 rfl w.heap.size 9 i0 (.string ⟨#[]⟩) 1 16 Tryd.underlying37 hi0 hz0 hz1 hz2 rfl (by decide) (.slice (some ⟨g, 0, none⟩) D.length c1) D.length (parL D) rfl (HO.out.alloc _) ⟨wr.heap.size, 0, none⟩ 1 1 [.string ⟨((s.data.toList.drop q).take (s.size - q)).toArray⟩] rfl rfl ?c1 ?c2 ?c3 ?c4 ?c5 ?_; rotate_left 5; intro v' w2 hown2 hgrow _; have HX := Lib.hid (CutNext rfl HO.out HH.out hm.out hown2 hgrow); clear hown2 hgrow)))
        case c1 =>
          intro j u hj
          match j, hj with
          | 0, hj => simp at hj; subst hj; simp [Addr.add]
        case c2 => intro u hu; simp at hu; subst hu; rfl
        case c3 => unfold maxLen; omega
        case c4 => omega
        case c5 => simp; omega
        all_goals
          go_roundw
          case rel => exact ⟨s.size + 1, s.size + 1, by omega, by go_num, by go_num, HX.out⟩
          case measure => simp [RowKit.intOf]
      · have hle : ¬ k ≤ s.size := by omega
        have hd := hct.done (by rw [hll]; omega)
        have HC := Lib.hid (hD.cells (g := g) rfl)
        have HB := Lib.hid hbl
        have hgb := (hD.lt g rfl).1
        clear HH hx hD hct hbl
        obtain ⟨hd, -⟩ := hd
        go_wp2_with fail
        go_ret
        subst hd
        refine ⟨g, c1, rfl, hkc, fun j u hu => ?_, ⟨hgb, hgl⟩, HB.out⟩
        have h2 := HC.out j u hu
        rw [Go.WideShapes.add_plain, Nat.zero_add] at h2
        exact h2
end Go.Proofs.YtepjhfigkfpheaaDoor
