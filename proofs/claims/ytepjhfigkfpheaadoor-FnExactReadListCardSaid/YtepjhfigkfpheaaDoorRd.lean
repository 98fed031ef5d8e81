/- Contracts: the number with a decimal text: the reference's and the program's both answer rd. Conditions: the library's listed variables hold what their text lays. -/
import Derived.Test.YtepjhfigkfpheaaDoorRdP
import Derived.Test.YtepjhfigkfpheaaDoorDecB
import Derived.Lib.AtoiErrMem
import Derived.Lib.ParseIntBTie
namespace Go.Proofs.YtepjhfigkfpheaaDoor
open Go.RowKit Go.Lib Go.Shelf

theorem ret_bool {a b : Bool} (h : a = b) : (Ending.returned (.bool a)) = .returned (.bool b) := by rw [h]
def inB (n l h : Int) : Bool := decide (l ≤ n) && decide (n ≤ h)
theorem inB_yes {n l h : Int} (h1 : l ≤ n) (h2 : n ≤ h) : inB n l h = true := by simp [inB, h1, h2]
theorem inB_no {n l h : Int} (h1 : ¬ (l ≤ n ∧ n ≤ h)) : inB n l h = false := by simp [inB]; omega
theorem spec_l00In (n l h : Int) (w : World) : Calls Tryd.prog 29 #[.int .i64 n, .int .i64 l, .int .i64 h] w fun e w' => e = .returned (.bool (inB n l h)) ∧ w = w' := by
  by_cases h1 : l ≤ n
  · by_cases h2 : n ≤ h
    · rw [inB_yes h1 h2]
      go_enter Tryd.func29, Tryd.ntmps29
      go_wp2
      go_ret
      exact ⟨ret_bool (by simp <;> omega), rfl⟩
    · rw [inB_no (by omega)]
      go_enter Tryd.func29, Tryd.ntmps29
      go_wp2
      go_ret
      exact ⟨ret_bool (by simp <;> omega), rfl⟩
  · rw [inB_no (by omega)]
    go_enter Tryd.func29, Tryd.ntmps29
    go_wp2
    go_ret
    exact ⟨rfl, rfl⟩
theorem impl_within (n l h : Int) (w : World) : Calls Tryd.prog 30 #[.int .i64 n, .int .i64 l, .int .i64 h] w fun e w' => e = .returned (.bool (inB n l h)) ∧ w = w' := by
  by_cases h1 : l ≤ n
  · by_cases h2 : n ≤ h
    · rw [inB_yes h1 h2]
      go_enter Tryd.func30, Tryd.ntmps30
      go_wp2
      go_ret
      exact ⟨ret_bool (by simp <;> omega), rfl⟩
    · rw [inB_no (by omega)]
      go_enter Tryd.func30, Tryd.ntmps30
      go_wp2
      go_ret
      exact ⟨ret_bool (by simp <;> omega), rfl⟩
  · rw [inB_no (by omega)]
    go_enter Tryd.func30, Tryd.ntmps30
    go_wp2
    go_ret
    exact ⟨rfl, rfl⟩
theorem take_all (s : ByteArray) : s.data.toList.take s.size = s.data.toList := List.take_of_length_le (by simp)
theorem pow17 {k : Nat} (h : k ≤ 17) : 10 ^ k ≤ 100000000000000000 := Nat.pow_le_pow_right (by decide) h
theorem valN_at (s : ByteArray) (k : Nat) (hk : k < s.size) : valN 0 (s.data.toList.take (k + 1)) = if 48 ≤ s[k].toNat ∧ s[k].toNat ≤ 57 then 10 * valN 0 (s.data.toList.take k) + (s[k].toNat - 48) else valN 0 (s.data.toList.take k) :=
  valN_take s.data.toList k (by simpa using hk)
theorem rdTo_lt (s : ByteArray) (k : Nat) (hk : k ≤ 17) : valN 0 (s.data.toList.take k) < 100000000000000000 := by
  have h1 := valN_bound (s.data.toList.take k)
  have h2 : (s.data.toList.take k).length ≤ 17 := by rw [List.length_take]; omega
  have := pow17 h2
  omega
theorem rdTo_lt' (s : ByteArray) (k : Nat) (hk : k ≤ 16) : valN 0 (s.data.toList.take k) < 10000000000000000 := by
  have h1 := valN_bound (s.data.toList.take k)
  have h2 : (s.data.toList.take k).length ≤ 16 := by rw [List.length_take]; omega
  have : 10 ^ (s.data.toList.take k).length ≤ 10 ^ 16 := Nat.pow_le_pow_right (by decide) h2
  omega
/-- Both results. -/
def rdV (s : ByteArray) : Value := .tuple #[.int .i64 (rd s.data.toList).1, .bool (rd s.data.toList).2]
theorem rdV_no {s : ByteArray} (h : rd s.data.toList = (0, false)) : rdV s = .tuple #[.int .i64 0, .bool false] := by unfold rdV; rw [h]
theorem rdV_yes {s : ByteArray} {v : Int} (h : rd s.data.toList = (v, true)) : rdV s = .tuple #[.int .i64 v, .bool true] := by unfold rdV; rw [h]
theorem spec_l01Value (s : ByteArray) (hs : s.size ≤ maxLen) (w : World) : Calls Tryd.prog 23 #[.string s] w fun e w' => e = .returned (rdV s) ∧ Below w.heap.size w w' := by
  unfold maxLen at hs
  by_cases hlen : 1 ≤ s.size ∧ s.size ≤ 17
  · obtain ⟨l1, l2⟩ := hlen
    go_enter Tryd.func23, Tryd.ntmps23
    go_wp2_with fail
    go_loop [4, 5] (fun m i => ∃ k : Nat, k ≤ s.size ∧ i = .int .i64 k ∧ m = .int .i64 (valN 0 (s.data.toList.take k))) (fun _ i => s.size - (RowKit.intOf i).toNat)
    case atStart => exact ⟨0, Nat.zero_le _, rfl, rfl⟩
    case round =>
      obtain ⟨k, hk, rfl, rfl⟩ := hrel
      by_cases hlt : k < s.size
      · have HS := Lib.hid (valN_at s k hlt)
        have hb := rdTo_lt' s k (by omega)
        generalize hc : valN 0 (s.data.toList.take k) = c at *
        have c0 := s[k].toNat_lt
        clear hc
        by_cases h1 : 48 ≤ s[k].toNat
        · by_cases h2 : s[k].toNat ≤ 57
          · go_wp2
            go_round
            case rel => exact ⟨k + 1, by omega, by go_num, by rw [HS.out, if_pos ⟨h1, h2⟩]; simp; omega⟩
            case measure => simp [RowKit.intOf]; omega
          · go_wp2
            go_round
            case rel => exact ⟨k + 1, by omega, by go_num, by rw [HS.out, if_neg (fun h => h2 h.2)]⟩
            case measure => simp [RowKit.intOf]; omega
        · go_wp2
          go_round
          case rel => exact ⟨k + 1, by omega, by go_num, by rw [HS.out, if_neg (fun h => h1 h.1)]⟩
          case measure => simp [RowKit.intOf]; omega
      · have e : k = s.size := by omega
        subst e
        have htk := take_all s
        have hb : valN 0 s.data.toList < 100000000000000000 := by have h := rdTo_lt s s.size l2; rw [htk] at h; exact h
        rw [htk]
        have hrd : rd s.data.toList = if (-1000000000000000 ≤ sgn s.data.toList (valN 0 s.data.toList) ∧ sgn s.data.toList (valN 0 s.data.toList) ≤ 1000000000000000) ∧ itoa (sgn s.data.toList (valN 0 s.data.toList)) = s.data.toList then (sgn s.data.toList (valN 0 s.data.toList), true) else (0, false) := by
          unfold rd
          split <;> split
          · rfl
          · rename_i h1 h2; exact absurd h1.2.2 h2
          · rename_i h1 h2; exact absurd ⟨by simpa using l1, by simpa using l2, h2⟩ h1
          · rfl
        have hsg : sgn s.data.toList (valN 0 s.data.toList) = if s[0].toNat = 45 then -(valN 0 s.data.toList : Int) else (valN 0 s.data.toList : Int) := by
          unfold sgn
          have : s.data.toList.head? = some s[0] := by
            rw [List.head?_eq_getElem?]
            rw [List.getElem?_eq_getElem (by simp; omega)]
            rfl
          rw [this]; simp
        generalize hq : valN 0 s.data.toList = q at *
        clear hq htk
        by_cases h45 : s[0].toNat = 45
        · rw [if_pos h45] at hsg
          rw [hsg] at hrd
          clear hsg
          by_cases hin : -1000000000000000 ≤ (-(q : Int)) ∧ (-(q : Int)) ≤ 1000000000000000
          · have hib := inB_yes hin.1 hin.2
            by_cases heq : itoa (-(q : Int)) = s.data.toList
            · rw [if_pos ⟨hin, heq⟩] at hrd
              have hv := rdV_yes hrd
              clear hrd
              have hss := sl_eq heq
              clear heq
              go_wp2_with (first | (go_at_call 29; refine (spec_l00In _ _ _ _).mono ?_; rintro e w' ⟨rfl, rfl⟩) | (go_at_call 27; refine (spec_l01Dec (-(q : Int)) (by omega) (by omega) _).mono ?_; rintro e w' ⟨rfl, hbel⟩))
              go_ret2
              exact ⟨by rw [hv] <;> rfl, hbel⟩
            · rw [if_neg (fun h => heq h.2)] at hrd
              have hv := rdV_no hrd
              clear hrd
              have hss := sl_ne heq
              clear heq
              go_wp2_with (first | (go_at_call 29; refine (spec_l00In _ _ _ _).mono ?_; rintro e w' ⟨rfl, rfl⟩) | (go_at_call 27; refine (spec_l01Dec (-(q : Int)) (by omega) (by omega) _).mono ?_; rintro e w' ⟨rfl, hbel⟩))
              go_ret2
              exact ⟨by rw [hv] <;> rfl, hbel⟩
          · have hib := inB_no hin
            rw [if_neg (fun h => hin h.1)] at hrd
            have hv := rdV_no hrd
            clear hrd hin
            go_wp2_with (first | (go_at_call 29; refine (spec_l00In _ _ _ _).mono ?_; rintro e w' ⟨rfl, rfl⟩) | (go_at_call 27; refine (spec_l01Dec NN (by omega) (by omega) _).mono ?_; rintro e w' ⟨rfl, hbel⟩))
            go_ret2
            exact ⟨by rw [hv] <;> rfl, Below.refl _ _⟩
        · rw [if_neg h45] at hsg
          rw [hsg] at hrd
          clear hsg
          by_cases hin : -1000000000000000 ≤ (q : Int) ∧ (q : Int) ≤ 1000000000000000
          · have hib := inB_yes hin.1 hin.2
            by_cases heq : itoa (q : Int) = s.data.toList
            · rw [if_pos ⟨hin, heq⟩] at hrd
              have hv := rdV_yes hrd
              clear hrd
              have hss := sl_eq heq
              clear heq
              go_wp2_with (first | (go_at_call 29; refine (spec_l00In _ _ _ _).mono ?_; rintro e w' ⟨rfl, rfl⟩) | (go_at_call 27; refine (spec_l01Dec (q : Int) (by omega) (by omega) _).mono ?_; rintro e w' ⟨rfl, hbel⟩))
              go_ret2
              exact ⟨by rw [hv] <;> rfl, hbel⟩
            · rw [if_neg (fun h => heq h.2)] at hrd
              have hv := rdV_no hrd
              clear hrd
              have hss := sl_ne heq
              clear heq
              go_wp2_with (first | (go_at_call 29; refine (spec_l00In _ _ _ _).mono ?_; rintro e w' ⟨rfl, rfl⟩) | (go_at_call 27; refine (spec_l01Dec (q : Int) (by omega) (by omega) _).mono ?_; rintro e w' ⟨rfl, hbel⟩))
              go_ret2
              exact ⟨by rw [hv] <;> rfl, hbel⟩
          · have hib := inB_no hin
            rw [if_neg (fun h => hin h.1)] at hrd
            have hv := rdV_no hrd
            clear hrd hin
            go_wp2_with (first | (go_at_call 29; refine (spec_l00In _ _ _ _).mono ?_; rintro e w' ⟨rfl, rfl⟩) | (go_at_call 27; refine (spec_l01Dec NN (by omega) (by omega) _).mono ?_; rintro e w' ⟨rfl, hbel⟩))
            go_ret2
            exact ⟨by rw [hv] <;> rfl, Below.refl _ _⟩
  · have hr : rd s.data.toList = (0, false) := by
      unfold rd; rw [if_neg]; rintro ⟨a, b, _⟩; simp at a b; omega
    rw [rdV_no hr]
    by_cases h0 : s.size < 1
    · go_enter Tryd.func23, Tryd.ntmps23
      go_wp2
      go_ret2
      exact ⟨rfl, Below.refl _ _⟩
    · go_enter Tryd.func23, Tryd.ntmps23
      go_wp2
      go_ret2
      exact ⟨rfl, Below.refl _ _⟩
theorem spec_ReadDecimal (s : ByteArray) (hs : s.size ≤ maxLen) (w : World) : Calls Tryd.prog 11 #[.string s] w fun e w' => e = .returned (rdV s) ∧ Below w.heap.size w w' := by
  have hv : ∃ n b, rdV s = .tuple #[.int .i64 n, .bool b] := ⟨_, _, rfl⟩
  obtain ⟨n, b, hv⟩ := hv
  rw [hv]
  have hc : Calls Tryd.prog 23 #[.string s] w fun e w' => e = .returned (.tuple #[.int .i64 n, .bool b]) ∧ Below w.heap.size w w' := by rw [← hv]; exact spec_l01Value s hs w
  go_enter Tryd.func11, Tryd.ntmps11
  go_wp2_with (go_at_call 23; refine hc.mono ?_; rintro e w' ⟨rfl, hbel⟩)
  go_ret2
  exact ⟨rfl, hbel⟩
/-- The library's two errors are there. -/
def Errs (w : World) : Prop := (∃ tp p, w.var? Tryd.prog "strconv.ErrSyntax" = some #[.iface tp p]) ∧ ∃ tp p, w.var? Tryd.prog "strconv.ErrRange" = some #[.iface tp p]
theorem Errs.keep {w w' : World} (h : Errs w) (hb : Below w.heap.size w w') : Errs w' := by
  obtain ⟨⟨a, b, h1⟩, ⟨c, d, h2⟩⟩ := h
  exact ⟨⟨a, b, var_below h1 hb⟩, ⟨c, d, var_below h2 hb⟩⟩
theorem lib_ParseInt_ok (s : ByteArray) (hs : s.size ≤ 281474976710656) (v : Int) (h : parseIntB 64 s.data.toList = .ok v) (w : World) :
    Calls Tryd.prog 24 #[.string s, .int .i64 10, .int .i64 64] w fun e w' => e = .returned (.tuple #[.int .i64 v, .nilIface]) ∧ Below w.heap.size w w' :=
  (Tryd.strconv_ParseInt_10_at64_ok s (by omega) v h w).mono fun _ _ ⟨he, hw⟩ => ⟨he, by
    rcases hw with rfl | ⟨t, rfl⟩
    · exact Below.refl _ _
    · exact bytesWorld_below _ _ _⟩
theorem lib_ParseInt_no (s : ByteArray) (hs : s.size ≤ 281474976710656) (h : ∀ v, parseIntB 64 s.data.toList ≠ .ok v) (w : World) (he : Errs w) :
    Calls Tryd.prog 24 #[.string s, .int .i64 10, .int .i64 64] w fun e w' => (∃ v t p, e = .returned (.tuple #[.int .i64 v, .iface t p])) ∧ Below w.heap.size w w' := by
  obtain ⟨⟨a, b, h1⟩, ⟨c, d, h2⟩⟩ := he
  cases hp : parseIntB 64 s.data.toList
  case ok v => exact absurd hp (h v)
  case range => exact (Any.strconv_ParseInt_10_at64_range_var Tryd.laysC174 s hs hp c d w h2).mono fun _ _ ⟨N, he, _, _, hb⟩ => ⟨⟨_, _, _, he⟩, hb⟩
  all_goals exact (Any.strconv_ParseInt_10_at64_syntax_var Tryd.laysC174 s hs hp a b w h1).mono fun _ _ ⟨N, he, _, _, hb⟩ => ⟨⟨_, _, _, he⟩, hb⟩
theorem impl_isValue (n : Int) (w : World) : Calls Tryd.prog 21 #[.int .i64 n] w fun e w' => e = .returned (.bool (inB n (-1000000000000000) 1000000000000000)) ∧ w = w' := by
  go_enter Tryd.func21, Tryd.ntmps21
  go_wp2_with (go_at_call 30; refine (impl_within _ _ _ _).mono ?_; rintro e w' ⟨rfl, rfl⟩)
  go_ret
  exact ⟨rfl, rfl⟩
theorem impl_ReadDecimal (s : ByteArray) (hs : s.size ≤ 281474976710656) (w : World) (ht : Tens w) (he : Errs w) : Calls Tryd.prog 12 #[.string s] w fun e w' => e = .returned (rdV s) ∧ Below w.heap.size w w' := by
  have hr := rd_parse s.data.toList
  by_cases hp : ∃ v, parseIntB 64 s.data.toList = .ok v
  · obtain ⟨v, hp⟩ := hp
    rw [hp] at hr
    simp only at hr
    obtain ⟨b0, b1⟩ := parseIntB_bounds hp
    have b2 : -9223372036854775808 ≤ v := by simpa using b0
    have b3 : v ≤ 9223372036854775807 := by have : v < 9223372036854775808 := by simpa using b1
                                            omega
    by_cases hin : -1000000000000000 ≤ v ∧ v ≤ 1000000000000000
    · have hib := inB_yes hin.1 hin.2
      by_cases heq : itoa v = s.data.toList
      · rw [if_pos ⟨hin, heq⟩] at hr
        have hv := rdV_yes hr
        have hss := sl_eq heq
        clear hr b0 b1
        go_enter Tryd.func12, Tryd.ntmps12
        go_wp2_with (first | (go_at_call 24; refine (lib_ParseInt_ok s hs v hp _).mono ?_; rintro e w1 ⟨rfl, hb1⟩) | (go_at_call 21; refine (impl_isValue _ _).mono ?_; rintro e w' ⟨rfl, rfl⟩) | (go_at_call 18; refine (impl_Decimal v b2 b3 _ (ht.keep hb1)).mono ?_; rintro e w2 ⟨rfl, hb2⟩))
        go_ret2
        exact ⟨by rw [hv] <;> rfl, hb1.trans (hb2.mono hb1.size)⟩
      · rw [if_neg (fun h => heq h.2)] at hr
        have hv := rdV_no hr
        have hss := sl_ne heq
        clear hr b0 b1
        go_enter Tryd.func12, Tryd.ntmps12
        go_wp2_with (first | (go_at_call 24; refine (lib_ParseInt_ok s hs v hp _).mono ?_; rintro e w1 ⟨rfl, hb1⟩) | (go_at_call 21; refine (impl_isValue _ _).mono ?_; rintro e w' ⟨rfl, rfl⟩) | (go_at_call 18; refine (impl_Decimal v b2 b3 _ (ht.keep hb1)).mono ?_; rintro e w2 ⟨rfl, hb2⟩))
        go_ret2
        exact ⟨by rw [hv] <;> rfl, hb1.trans (hb2.mono hb1.size)⟩
    · have hib := inB_no hin
      rw [if_neg (fun h => hin h.1)] at hr
      have hv := rdV_no hr
      clear hr b0 b1
      go_enter Tryd.func12, Tryd.ntmps12
      go_wp2_with (first | (go_at_call 24; refine (lib_ParseInt_ok s hs v hp _).mono ?_; rintro e w1 ⟨rfl, hb1⟩) | (go_at_call 21; refine (impl_isValue _ _).mono ?_; rintro e w' ⟨rfl, rfl⟩))
      go_ret2
      exact ⟨by rw [hv] <;> rfl, hb1⟩
  · have hn : ∀ v, parseIntB 64 s.data.toList ≠ .ok v := fun v h => hp ⟨v, h⟩
    have hr0 : rd s.data.toList = (0, false) := by
      rw [hr]
      cases hq : parseIntB 64 s.data.toList
      case ok v => exact absurd hq (hn v)
      all_goals rfl
    have hv := rdV_no hr0
    clear hr hr0 hp
    go_enter Tryd.func12, Tryd.ntmps12
    go_wp2_with (first | (go_at_call 24; refine (lib_ParseInt_no s hs hn _ he).mono ?_; rintro e w1 ⟨⟨v1, t1, p1, rfl⟩, hb1⟩))
    go_ret2
    exact ⟨by rw [hv] <;> rfl, hb1⟩
end Go.Proofs.YtepjhfigkfpheaaDoor
