/- Contracts: the integers of a text with commas, the reference's loop. Conditions: none. -/
import Derived.Test.YtepjhfigkfpheaaDoorRl
namespace Go.Proofs.YtepjhfigkfpheaaDoor
open Go.RowKit Go.Lib

theorem sr_eq {l : List UInt8} {s : ByteArray} (h : s.data.toList = l) : (s.toList == l) = true := by rw [ByteArray.toList_eq, h]; simp
theorem sr_ne {l : List UInt8} {s : ByteArray} (h : ¬ s.data.toList = l) : (s.toList == l) = false := by rw [ByteArray.toList_eq]; simpa using h
/-- What both return. -/
def Nums (l : List UInt8) (w : World) (e : Ending) (w' : World) : Prop :=
  match nums l with
  | some zs => ∃ g c, e = .returned (.tuple #[.slice (some ⟨g, 0, none⟩) zs.length c, .bool true]) ∧ w'.ownsRow w.heap.size 2 1 (.slice (some ⟨g, 0, none⟩) zs.length c) zs.length (zs.map (Value.int .i64)) ∧ Below w.heap.size w w'
  | none => e = .returned (.tuple #[.slice none 0 0, .bool false]) ∧ Below w.heap.size w w'
theorem Nums.no {l : List UInt8} {w w' : World} {e : Ending} (h : nums l = none) (he : e = .returned (.tuple #[.slice none 0 0, .bool false])) (hb : Below w.heap.size w w') : Nums l w e w' := by
  unfold Nums; rw [h]; exact ⟨he, hb⟩
theorem Nums.yes {l : List UInt8} {zs : List Int} {n g c : Nat} {w w' : World} {e : Ending} (h : nums l = some zs) (hn : n = zs.length) (he : e = .returned (.tuple #[.slice (some ⟨g, 0, none⟩) n c, .bool true]))
    (ho : w'.ownsRow w.heap.size 2 1 (.slice (some ⟨g, 0, none⟩) n c) n (zs.map (Value.int .i64))) (hb : Below w.heap.size w w') : Nums l w e w' := by
  subst hn
  unfold Nums; rw [h]; exact ⟨g, c, he, ho, hb⟩
/-- The parts lie in block gp. -/
def PartsAt (w : World) (gp : Nat) (l : List UInt8) : Prop := ∀ j u, (parL (cut l))[j]? = some u → w.cell? ⟨gp, j, none⟩ = some u
/-- Where the loop of the integers stands. -/
def NumAt (w : World) (l : List UInt8) (gp k g c : Nat) (wr : World) : Prop :=
  wr.ownsRow w.heap.size 2 1 (.slice (some ⟨g, 0, none⟩) k c) k (numL l k) ∧ Below w.heap.size w wr ∧ goodTo l k ∧ PartsAt wr gp l ∧ (g ≠ gp ∧ gp < wr.heap.size)
theorem NumAt.start {w w1 : World} {l : List UInt8} {gp : Nat} (hb : Below (w.alloc (.cells #[] 2)).heap.size (w.alloc (.cells #[] 2)) w1) (hp : PartsAt w1 gp l) (h1 : w.heap.size + 1 ≤ gp) (h2 : gp < w1.heap.size) : NumAt w l gp 0 w.heap.size 0 w1 :=
  ⟨ownsBelow (World.ownsRow_lit (base := w.heap.size) w #[] 0 (by simp) (by unfold maxLen; omega) rfl) hb, belowN (belowAlloc (Below.refl _ _) _) (hb.mono (by simp)), goodTo_zero l, hp, by omega, h2⟩
theorem NumAt.below {w wr w1 : World} {l : List UInt8} {gp k g c : Nat} (h : NumAt w l gp k g c wr) (hb : Below wr.heap.size wr w1) : NumAt w l gp k g c w1 := by
  obtain ⟨ho, hbl, hg, hp, hne, hlt⟩ := h
  refine ⟨ownsBelow ho hb, belowN hbl hb, hg, fun j u hu => (hb.cell (p := ⟨gp, j, none⟩) hlt).trans (hp j u hu), hne, Nat.lt_of_lt_of_le hlt hb.size⟩
theorem NumAt.next {w wr w2 : World} {l p : List UInt8} {gp k g c g2 c2 : Nat} {z : Int} (h : NumAt w l gp k g c wr) (hp : (cut l)[k]? = some p) (hz : (rd p).1 = z) (hr : (rd p).2 = true)
    (hown : w2.ownsRow w.heap.size 2 1 (.slice (some ⟨g2, 0, none⟩) (k + 1) c2) (k + 1) (numL l k ++ [.int .i64 z]))
    (hg : (wr.alloc (.cells #[.int .i64 z] 2)).grownBy w2 (Value.slice (some ⟨g, 0, none⟩) k c).ownBlock) (hat : (Value.slice (some ⟨g, 0, none⟩) k c).ownBlock = some g2 ∨ g2 = wr.heap.size + 1) : NumAt w l gp (k + 1) g2 c2 w2 := by
  obtain ⟨ho, hbl, hgd, hpp, hne, hlt⟩ := h
  subst hz
  have hB := hbl.size
  refine ⟨by rw [numL_succ hp]; exact hown, Below.grown (belowAlloc hbl _) hg (by simp; omega) (fun j hj => (ho.lt j hj).1), goodTo_succ hgd hp hr, fun j u hu => ?_, ?_, ?_⟩
  · refine hg.cell ?_ ?_
    · exact (((Below.refl wr.heap.size wr).alloc (Nat.le_refl _) _).cell (p := ⟨gp, j, none⟩) hlt).trans (hpp j u hu)
    · simp [Value.ownBlock]; exact fun e => hne e.symm
  · rcases hat with e | e
    · simp [Value.ownBlock] at e; omega
    · omega
  · have := hg.size
    simp at this; omega
theorem rdV_list (p : List UInt8) : rdV ⟨p.toArray⟩ = .tuple #[.int .i64 (rd p).1, .bool (rd p).2] := by unfold rdV; simp
theorem part_at (l : List UInt8) (k : Nat) (hk : k < (cut l).length) : ∃ p, (cut l)[k]? = some p ∧ p.length ≤ l.length ∧ (parL (cut l))[k]? = some (.string ⟨p.toArray⟩) := by
  refine ⟨(cut l)[k], List.getElem?_eq_getElem hk, part_len l _ (List.getElem_mem hk), ?_⟩
  simp [parL, List.getElem?_eq_getElem hk]
set_option maxRecDepth 20000 in
theorem spec_l01Numbers (s : ByteArray) (hs : s.size ≤ 1048576) (w : World) : Calls Tryd.prog 25 #[.string s] w fun e w' => Nums s.data.toList w e w' := by
  obtain ⟨i0, hi0, hz0, hz1, hz2⟩ := info_parts infoI
  have hll : s.data.toList.length = s.size := by simp
  by_cases h0 : s.data.toList = [110, 111, 110, 101]
  · have hss := sr_eq h0
    have hn : nums s.data.toList = some [] := by rw [h0]; rfl
    go_enter Tryd.func25, Tryd.ntmps25
    go_wp2_with fail
    go_ret2
    exact Nums.yes hn rfl rfl (World.ownsRow_lit (base := w.heap.size) w #[] 0 (by simp) (by unfold maxLen; omega) rfl) (belowAlloc (Below.refl _ _) _)
  · have hss := sr_ne h0
    have hlen := cut_len s.data.toList
    rw [hll] at hlen
    go_enter Tryd.func25, Tryd.ntmps25
    go_wp2_with fail
    refine (spec_l01Cut s hs _).mono ?_
    rintro e w1 ⟨gp, cp, rfl, hcp, hpp, hgp, hb1⟩
    have HA := Lib.hid (NumAt.start hb1 hpp (by have := hgp.1; simp at this; omega) hgp.2)
    clear hpp hb1
    by_cases h64 : (cut s.data.toList).length ≤ 64
    · go_wp2_with fail
      go_loopw [4, 6] (fun v i wr => ∃ k g c : Nat, k ≤ (cut s.data.toList).length ∧ i = .int .i64 k ∧ v = .slice (some ⟨g, 0, none⟩) k c ∧ NumAt w s.data.toList gp k g c wr) (fun _ i _ => (cut s.data.toList).length - (RowKit.intOf i).toNat)
      case atStart => exact ⟨0, w.heap.size, 0, Nat.zero_le _, rfl, rfl, HA.out⟩
      case round =>
        obtain ⟨k, g, c, hk, rfl, rfl, H⟩ := hrel
        have HH := Lib.hid H
        by_cases hlt : k < (cut s.data.toList).length
        · obtain ⟨p, hp, hpl, hpc⟩ := part_at s.data.toList k hlt
          rw [hll] at hpl
          have a1 := H.2.2.2.1 k _ hpc
          have hps : (⟨p.toArray⟩ : ByteArray).size ≤ maxLen := by unfold maxLen; simp [ByteArray.size]; omega
          have hv := spec_l01Value ⟨p.toArray⟩ hps
          rw [rdV_list] at hv
          have hsz := H.2.1.size
          have hbad := fun h => nums_bad (l := s.data.toList) h0 hp h
          have hnext := @NumAt.next w
          clear H hps hpc
          generalize hz : (rd p).1 = z at *
          cases hok : (rd p).2 with
          | true =>
            rw [hok] at hv
            have HP := Lib.hid hp
            have HK := Lib.hid hok
            have HZ := Lib.hid hz
            clear hp hok hz hbad hnext
            go_wp2_with (first
              | (go_at_call 23; refine (hv _).mono ?_; rintro e w2 ⟨rfl, hb2⟩; have HB := Lib.hid (HH.out.below hb2); have hsz2 := hb2.size; clear hb2)
              | (at_builtin; refine wpList_append_lies _ rfl _ _ 22 rfl w.heap.size 2 i0 (.int .i64 0) 1 8 Tryd.underlying22 hi0 hz0 hz1 hz2 rfl (by decide) _ k _ rfl (HB.out.1.alloc _) ⟨w2.heap.size, 0, none⟩ 1 1 [.int .i64 z] rfl rfl ?c1 ?c2 ?c3 ?c4 ?c5 ?c6 (w2.heap.size + 1) ?c7 ?_; rotate_left 7; intro g2 c2 w3 hown3 hgrow hat hlt3; have HX := Lib.hid (HB.out.next HP.out HZ.out HK.out hown3 hgrow hat); clear hown3 hgrow hat hlt3))
            case c1 =>
              intro j u hj
              match j, hj with
              | 0, hj => simp at hj; subst hj; simp [Addr.add]
            case c2 => intro u hu; simp at hu; subst hu; rfl
            case c3 => omega
            case c4 => unfold maxLen; omega
            case c5 => omega
            case c6 => simp; omega
            case c7 => simp
            all_goals
              go_roundw
              case rel => exact ⟨k + 1, g2, c2, by omega, by go_num, rfl, HX.out⟩
              case measure => simp [RowKit.intOf]; omega
          | false =>
            have hn := hbad hok
            rw [hok] at hv
            have HN := Lib.hid hn
            clear hp hok hz hbad hnext hn
            go_wp2_with (first
              | (go_at_call 23; refine (hv _).mono ?_; rintro e w2 ⟨rfl, hb2⟩; have HB := Lib.hid (HH.out.below hb2); clear hb2))
            go_ret2
            exact Nums.no HN.out rfl HB.out.2.1
        · have e : k = (cut s.data.toList).length := by omega
          subst e
          have HN := Lib.hid (nums_good h0 h64 H.2.2.1)
          clear H
          go_wp2_with fail
          go_ret2
          have ho := HH.out.1
          rw [numL_all] at ho
          exact Nums.yes HN.out (by simp) rfl ho HH.out.2.1
    · have hn := nums_long h0 (show 64 < (cut s.data.toList).length by omega)
      go_wp2_with fail
      go_ret2
      exact Nums.no hn rfl HA.out.2.1
theorem spec_ReadList (s : ByteArray) (hs : s.size ≤ 1048576) (w : World) : Calls Tryd.prog 13 #[.string s] w fun e w' => Nums s.data.toList w e w' := by
  have hc := spec_l01Numbers s hs w
  cases hn : nums s.data.toList with
  | some zs =>
    unfold Nums at hc
    rw [hn] at hc
    go_enter Tryd.func13, Tryd.ntmps13
    go_wp2_with (go_at_call 25; refine hc.mono ?_; rintro e w' ⟨g, c, rfl, ho, hb⟩; have HO := Lib.hid ho; clear ho)
    go_ret2
    exact Nums.yes hn rfl rfl HO.out hb
  | none =>
    unfold Nums at hc
    rw [hn] at hc
    go_enter Tryd.func13, Tryd.ntmps13
    go_wp2_with (go_at_call 25; refine hc.mono ?_; rintro e w' ⟨rfl, hb⟩)
    go_ret2
    exact Nums.no hn rfl hb
end Go.Proofs.YtepjhfigkfpheaaDoor
