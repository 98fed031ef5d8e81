/- Contracts: the integers of a text with commas, the program's. Conditions: the library's listed variables hold what their text lays; its own variable holds an integer. -/
import Derived.Test.YtepjhfigkfpheaaDoorRlS
namespace Go.Proofs.YtepjhfigkfpheaaDoor
open Go.RowKit Go.Lib

/-- The library's own variable holds some integer. -/
def MaxL (w : World) : Prop := ∃ m, w.cell? ⟨3, 0, none⟩ = some (.int .i64 m)
theorem MaxL.keep {w w' : World} (h : MaxL w) (hb : Below w.heap.size w w') : MaxL w' := by
  obtain ⟨m, hm⟩ := h
  exact ⟨m, (hb.cell (p := ⟨3, 0, none⟩) (World.block_lt_of_cell? w _ hm)).trans hm⟩
theorem split_parts (s : ByteArray) : (splitB ⟨#[44]⟩ 0 (countB s ⟨#[44]⟩) s).map Value.string = parL (cut s.data.toList) := by
  have h := splitB_data ⟨#[44]⟩ 0 (countB s ⟨#[44]⟩) s
  have e : splitK (⟨#[44]⟩ : ByteArray).data.toList 0 (countB s ⟨#[44]⟩) s.data.toList = cut s.data.toList := split_cut s.data.toList
  rw [e] at h
  rw [← h]
  unfold parL
  rw [List.map_map]
  refine List.map_congr_left fun b _ => ?_
  simp
theorem split_len (s : ByteArray) : countB s ⟨#[44]⟩ + 1 = (cut s.data.toList).length := by
  have h := splitB_all ⟨#[44]⟩ (by decide) 0 (countB s ⟨#[44]⟩) s rfl
  have := congrArg List.length (split_parts s)
  rw [List.length_map, parL_length, h] at this
  exact this
theorem impl_pieces_none (s : ByteArray) (h : s.data.toList = [110, 111, 110, 101]) (w : World) : Calls Tryd.prog 26 #[.string s] w fun e w' => e = .returned (.slice none 0 0) ∧ w' = w := by
  have hss := sr_eq h
  go_enter Tryd.func26, Tryd.ntmps26
  go_wp2_with fail
  go_ret
  exact ⟨rfl, rfl⟩
theorem impl_pieces (s : ByteArray) (hs : s.size ≤ 1048576) (h : ¬ s.data.toList = [110, 111, 110, 101]) (w : World) (hm : MaxL w) :
    Calls Tryd.prog 26 #[.string s] w fun e w' => e = .returned (.slice (some ⟨w.heap.size, 0, none⟩) (cut s.data.toList).length (cut s.data.toList).length) ∧ PartsAt w' w.heap.size s.data.toList ∧ w.heap.size < w'.heap.size ∧ Below w.heap.size w w' := by
  have hss := sr_ne h
  obtain ⟨m, hm⟩ := hm
  have hc := Tryd.strings_Split s ⟨#[44]⟩ m w (by omega) hm (by decide)
  rw [split_len] at hc
  go_enter Tryd.func26, Tryd.ntmps26
  go_wp2_with (go_at_call 35; refine hc.mono ?_; rintro e w' ⟨rfl, rfl⟩)
  go_ret
  refine ⟨rfl, fun j u hu => ?_, by simp, belowAlloc (Below.refl _ _) _⟩
  rw [← split_parts] at hu
  have := World.news_of_block (w := w.alloc (.cells ((splitB ⟨#[44]⟩ 0 (countB s ⟨#[44]⟩) s).map Value.string).toArray 9)) (heap_alloc_new w _) j u (by simpa using hu)
  rw [Go.WideShapes.add_plain, Nat.zero_add] at this
  exact this
set_option maxRecDepth 20000 in
theorem impl_ReadList (s : ByteArray) (hs : s.size ≤ 1048576) (w : World) (ht : Tens w) (he : Errs w) (hm : MaxL w) : Calls Tryd.prog 14 #[.string s] w fun e w' => Nums s.data.toList w e w' := by
  obtain ⟨i0, hi0, hz0, hz1, hz2⟩ := info_parts infoI
  have hll : s.data.toList.length = s.size := by simp
  by_cases h0 : s.data.toList = [110, 111, 110, 101]
  · have hn : nums s.data.toList = some [] := by rw [h0]; rfl
    go_enter Tryd.func14, Tryd.ntmps14
    go_wp2_with (go_at_call 26; refine (impl_pieces_none s h0 _).mono ?_; rintro e w' ⟨rfl, rfl⟩)
    go_loopw [4, 13] (fun v i wr => v = .slice (some ⟨w.heap.size, 0, none⟩) 0 0 ∧ i = .int .i64 0 ∧ wr = w.alloc (.cells #[] 2)) (fun _ _ _ => 0)
    case atStart => exact ⟨rfl, rfl, rfl⟩
    case round =>
      obtain ⟨rfl, rfl, rfl⟩ := hrel
      go_wp2_with fail
      go_ret2
      exact Nums.yes hn rfl rfl (World.ownsRow_lit (base := w.heap.size) w #[] 0 (by simp) (by unfold maxLen; omega) rfl) (belowAlloc (Below.refl _ _) _)
  · have hlen := cut_len s.data.toList
    rw [hll] at hlen
    have hb0 : Below w.heap.size w (w.alloc (.cells #[] 2)) := belowAlloc (Below.refl _ _) _
    go_enter Tryd.func14, Tryd.ntmps14
    go_wp2_with (go_at_call 26; refine (impl_pieces s hs h0 _ (hm.keep hb0)).mono ?_; rintro e w1 ⟨rfl, hpp, hgp, hb1⟩)
    have HA := Lib.hid (NumAt.start hb1 hpp (by simp) hgp)
    rw [World.size_alloc] at HA
    have HT := Lib.hid (And.intro ht he)
    clear hpp hb1 hgp ht he hm hb0
    go_loopw [4, 13] (fun v i wr => ∃ k g c : Nat, k ≤ (cut s.data.toList).length ∧ k ≤ 64 ∧ i = .int .i64 k ∧ v = .slice (some ⟨g, 0, none⟩) k c ∧ NumAt w s.data.toList (w.heap.size + 1) k g c wr) (fun _ i _ => (cut s.data.toList).length - (RowKit.intOf i).toNat)
    case atStart => exact ⟨0, w.heap.size, 0, Nat.zero_le _, Nat.zero_le _, rfl, rfl, HA.out⟩
    case round =>
      obtain ⟨k, g, c, hk, hk64, rfl, rfl, H⟩ := hrel
      have HH := Lib.hid H
      by_cases hlt : k < (cut s.data.toList).length
      · obtain ⟨p, hp, hpl, hpc⟩ := part_at s.data.toList k hlt
        rw [hll] at hpl
        have a1 := H.2.2.2.1 k _ hpc
        have hps : (⟨p.toArray⟩ : ByteArray).size ≤ 281474976710656 := by simp [ByteArray.size]; omega
        have hv := impl_ReadDecimal ⟨p.toArray⟩ hps _ (HT.out.1.keep H.2.1) (HT.out.2.keep H.2.1)
        rw [rdV_list] at hv
        have hsz := H.2.1.size
        have hbad := fun h => nums_bad (l := s.data.toList) h0 hp h
        clear H hps hpc
        generalize hz : (rd p).1 = z at *
        cases hok : (rd p).2 with
        | true =>
          rw [hok] at hv
          have HP := Lib.hid hp
          have HK := Lib.hid hok
          have HZ := Lib.hid hz
          clear hp hok hz hbad
          by_cases he64 : k = 64
          · have hkb : ((k : Int) == 64) = true := by rw [he64]; rfl
            have HN := Lib.hid (nums_long h0 (show 64 < (cut s.data.toList).length by omega))
            clear he64
            go_wp2_with (first
              | (go_at_call 12; refine hv.mono ?_; rintro e w2 ⟨rfl, hb2⟩; have HB := Lib.hid (HH.out.below hb2); have hsz2 := hb2.size; clear hb2))
            go_ret2
            exact Nums.no HN.out rfl HB.out.2.1
          · have hkb : ((k : Int) == 64) = false := by simp; omega
            go_wp2_with (first
              | (go_at_call 12; refine hv.mono ?_; rintro e w2 ⟨rfl, hb2⟩; have HB := Lib.hid (HH.out.below hb2); have hsz2 := hb2.size; clear hb2)
              | (at_builtin; refine wpList_append_lies _ rfl _ _ 22 rfl w.heap.size 2 i0 (.int .i64 0) 1 8 Tryd.underlying22 hi0 hz0 hz1 hz2 rfl (by decide) _ k _ rfl (HB.out.1.alloc _) ⟨w2.heap.size, 0, none⟩ 1 1 [.int .i64 z] rfl rfl ?c1 ?c2 ?c3 ?c4 ?c5 ?c6 (w2.heap.size + 1) ?c7 ?_; rotate_left 7; intro g2 c2 w3 hown3 hgrow hat hlt3; have HX := Lib.hid (HB.out.next HP.out HZ.out HK.out hown3 hgrow hat); clear hown3 hgrow hat hlt3))
            case c1 =>
              intro j u hj
              match j, hj with
              | 0, hj => simp at hj; subst hj; simp [Addr.add]
            case c2 => intro u hu; simp at hu; subst hu; rfl
            case c3 => omega
            case c4 => unfold maxLen; omega
            case c5 => omega
            case c6 => simp; omega
            case c7 => simp
            all_goals
              go_roundw
              case rel => exact ⟨k + 1, g2, c2, by omega, by omega, by go_num, rfl, HX.out⟩
              case measure => simp [RowKit.intOf]; omega
        | false =>
          have hn := hbad hok
          rw [hok] at hv
          have HN := Lib.hid hn
          clear hp hok hz hbad hn
          go_wp2_with (first
            | (go_at_call 12; refine hv.mono ?_; rintro e w2 ⟨rfl, hb2⟩; have HB := Lib.hid (HH.out.below hb2); clear hb2))
          go_ret2
          exact Nums.no HN.out rfl HB.out.2.1
      · have e : k = (cut s.data.toList).length := by omega
        subst e
        have HN := Lib.hid (nums_good h0 hk64 H.2.2.1)
        clear H
        go_wp2_with fail
        go_ret2
        have ho := HH.out.1
        rw [numL_all] at ho
        exact Nums.yes HN.out (by simp) rfl ho HH.out.2.1
end Go.Proofs.YtepjhfigkfpheaaDoor
