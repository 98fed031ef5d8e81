/- Contracts: the text of a list of integers, the reference's and the program's. Conditions: the library's table of tens holds what its text lays. -/
import Derived.Test.YtepjhfigkfpheaaDoorLtP
import Derived.Test.YtepjhfigkfpheaaDoorIL
import Derived.Test.YtepjhfigkfpheaaDoorRd
namespace Go.Proofs.YtepjhfigkfpheaaDoor
open Go.RowKit Go.Lib

theorem spec_l01List (b o n c : Nat) (L : Nat → Int) (hn : n ≤ 1048576) (w : World) (hc : IS w b o n L) :
    Calls Tryd.prog 19 #[.slice (some ⟨b, o, none⟩) n c] w fun e w' => e = .returned (.bool (okL L n)) ∧ w' = w := by
  go_enter Tryd.func19, Tryd.ntmps19
  go_wp2_with fail
  go_loop [3] (fun i => ∃ k : Nat, k ≤ n ∧ i = .int .i64 k ∧ inTo L k) (fun i => n - (RowKit.intOf i).toNat)
  case atStart => exact ⟨0, Nat.zero_le _, rfl, inTo_zero L⟩
  case round =>
    obtain ⟨k, hk, rfl, hin⟩ := hrel
    have HI := Lib.hid hin
    clear hin
    by_cases hlt : k < n
    · have a1 : w.cell? ⟨b, o + k, none⟩ = some (.int .i64 (L k)) := hc k hlt
      by_cases hr : -1000000000000000 ≤ L k ∧ L k ≤ 1000000000000000
      · have hib := inB_yes hr.1 hr.2
        have HS := Lib.hid (inTo_succ HI.out hr.1 hr.2)
        clear hr
        go_wp2_with (go_at_call 29; refine (spec_l00In _ _ _ _).mono ?_; rintro e w' ⟨rfl, rfl⟩)
        go_round
        case rel => exact ⟨k + 1, by omega, by go_num, HS.out⟩
        case measure => simp [RowKit.intOf]; omega
      · have hib := inB_no hr
        have hf := okL_bad hlt hr
        clear hr
        go_wp2_with (go_at_call 29; refine (spec_l00In _ _ _ _).mono ?_; rintro e w' ⟨rfl, rfl⟩)
        go_ret
        exact ⟨ret_bool hf.symm, rfl⟩
    · obtain rfl : k = n := by omega
      have hg := okL_good HI.out
      clear HI
      go_wp2_with fail
      go_ret
      exact ⟨ret_bool (decide_eq_decide.2 (by omega)), rfl⟩
theorem spec_l01List_nil (a : Option Addr) (c : Nat) (L : Nat → Int) (w : World) :
    Calls Tryd.prog 19 #[.slice a 0 c] w fun e w' => e = .returned (.bool (okL L 0)) ∧ w' = w := by
  have hg := okL_good (inTo_zero L)
  go_enter Tryd.func19, Tryd.ntmps19
  go_wp2_with fail
  go_loop [3] (fun i => i = .int .i64 0) (fun i => 0)
  case atStart => rfl
  case round =>
    obtain rfl := hrel
    go_wp2_with fail
    go_ret
    exact ⟨ret_bool rfl, rfl⟩
theorem belowN {W w1 w2 : World} (h : Below W.heap.size W w1) (hb : Below w1.heap.size w1 w2) : Below W.heap.size W w2 := h.trans (hb.mono h.size)
/-- One text behind another. -/
theorem cat_lists (a b : List UInt8) : (⟨a.toArray⟩ : ByteArray) ++ ⟨b.toArray⟩ = ⟨(a ++ b).toArray⟩ := by
  apply ByteArray.ext
  simp [ByteArray.data_append]
theorem cat3 (a b : List UInt8) : (⟨a.toArray⟩ : ByteArray) ++ ((⟨#[44]⟩ : ByteArray) ++ ⟨b.toArray⟩) = ⟨(a ++ 44 :: b).toArray⟩ := by
  rw [show (⟨#[44]⟩ : ByteArray) = ⟨[44].toArray⟩ from rfl, cat_lists, cat_lists]; rfl
theorem spec_l01Text (b o n c : Nat) (L : Nat → Int) (h1 : 1 ≤ n) (hn : n ≤ 64) (hin : inTo L n) (w : World) (hc : IS w b o n L) (hb : b < w.heap.size) :
    Calls Tryd.prog 20 #[.slice (some ⟨b, o, none⟩) n c] w fun e w' => e = .returned (.string ⟨(txt L n).toArray⟩) ∧ Below w.heap.size w w' := by
  have a0 : w.cell? ⟨b, o, none⟩ = some (.int .i64 (L 0)) := hc 0 (by omega)
  have i0 := hin 0 (by omega)
  go_enter Tryd.func20, Tryd.ntmps20
  go_wp2_with (go_at_call 27; refine (spec_l01Dec (L 0) (by omega) (by omega) _).mono ?_; rintro e w' ⟨rfl, hbel⟩)
  go_loopw [3, 4] (fun t i wr => ∃ k : Nat, 1 ≤ k ∧ k ≤ n ∧ i = .int .i64 k ∧ t = .string ⟨(txt L k).toArray⟩ ∧ Below w.heap.size w wr) (fun _ i _ => n - (RowKit.intOf i).toNat)
  case atStart => exact ⟨1, Nat.le_refl _, h1, rfl, rfl, hbel⟩
  case round =>
    obtain ⟨k, hk1, hk, rfl, rfl, hbl⟩ := hrel
    by_cases hlt : k < n
    · have a1 : wr.cell? ⟨b, o + k, none⟩ = some (.int .i64 (L k)) := (hbl.cell (p := ⟨b, o + k, none⟩) hb).trans (hc k hlt)
      have ik := hin k hlt
      have HB := Lib.hid hbl
      have HS := Lib.hid (txt_step L hk1)
      have tl := txt_len L k (fun j hj => hin j (by omega))
      have t2 := (itoa_len (L k) ik.1 ik.2).2
      clear hbl
      go_wp2_with (go_at_call 27; refine (spec_l01Dec (L k) (by omega) (by omega) _).mono ?_; rintro e w' ⟨rfl, hbk⟩)
      go_roundw
      case rel =>
        refine ⟨k + 1, by omega, by omega, by go_num, ?_, belowN HB.out hbk⟩
        rw [HS.out]
        exact congrArg Value.string (cat3 _ _)
      case measure => simp [RowKit.intOf]; omega
    · obtain rfl : k = n := by omega
      go_wp2_with fail
      go_ret
      exact ⟨rfl, hbl⟩
theorem spec_l01Text_nil (a : Option Addr) (c : Nat) (w : World) :
    Calls Tryd.prog 20 #[.slice a 0 c] w fun e w' => e = .returned (.string ⟨#[110, 111, 110, 101]⟩) ∧ w' = w := by
  go_enter Tryd.func20, Tryd.ntmps20
  go_wp2_with fail
  go_ret
  exact ⟨rfl, rfl⟩
theorem spec_ListText (b o n c : Nat) (L : Nat → Int) (h1 : 1 ≤ n) (hn : n ≤ 1048576) (w : World) (hc : IS w b o n L) (hb : b < w.heap.size) :
    Calls Tryd.prog 7 #[.slice (some ⟨b, o, none⟩) n c] w fun e w' => e = .returned (.tuple #[.string (ltS L n), .bool (okL L n)]) ∧ Below w.heap.size w w' := by
  by_cases hok : okL L n = true
  · obtain ⟨hin, h64⟩ := okL_yes hok
    have e : ltS L n = ⟨(txt L n).toArray⟩ := by unfold ltS; rw [if_pos hok, if_neg (by omega)]
    rw [e, hok]
    clear e
    go_enter Tryd.func7, Tryd.ntmps7
    go_wp2_with (first | (go_at_call 19; refine (spec_l01List b o n c L hn _ hc).mono ?_; rintro e w' ⟨rfl, rfl⟩) | (go_at_call 20; refine (spec_l01Text b o n c L h1 h64 hin _ hc hb).mono ?_; rintro e w' ⟨rfl, hbel⟩))
    go_ret2
    exact ⟨rfl, hbel⟩
  · have hok' : okL L n = false := by simpa using hok
    have e : ltS L n = ⟨#[]⟩ := by unfold ltS; rw [if_neg hok]
    rw [e, hok']
    clear e hok
    go_enter Tryd.func7, Tryd.ntmps7
    go_wp2_with (first | (go_at_call 19; refine (spec_l01List b o n c L hn _ hc).mono ?_; rintro e w' ⟨rfl, rfl⟩))
    go_ret2
    exact ⟨rfl, Below.refl _ _⟩
theorem spec_ListText_nil (a : Option Addr) (c : Nat) (w : World) :
    Calls Tryd.prog 7 #[.slice a 0 c] w fun e w' => e = .returned (.tuple #[.string ⟨#[110, 111, 110, 101]⟩, .bool true]) ∧ Below w.heap.size w w' := by
  have hok : okL (fun _ => 0) 0 = true := rfl
  go_enter Tryd.func7, Tryd.ntmps7
  go_wp2_with (first | (go_at_call 19; refine (spec_l01List_nil a c (fun _ => 0) _).mono ?_; rintro e w' ⟨rfl, rfl⟩) | (go_at_call 20; refine (spec_l01Text_nil a c _).mono ?_; rintro e w' ⟨rfl, rfl⟩))
  go_ret2
  exact ⟨rfl, Below.refl _ _⟩
end Go.Proofs.YtepjhfigkfpheaaDoor
