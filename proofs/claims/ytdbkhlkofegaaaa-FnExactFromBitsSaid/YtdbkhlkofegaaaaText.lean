/- Contracts of the loops over a text: names and check numbers. Conditions: none. -/
import Derived.Test.YtdbkhlkofegaaaaBase
import Derived.LoopTactic
namespace Go.Proofs.Ytdbkhlkofegaaaa
open Go.RowKit

/-- The first k bytes are small letters. -/
def okTo (s : ByteArray) (k : Nat) : Prop := ∀ j, (h : j < s.size) → j < k → 97 ≤ s[j].toNat ∧ s[j].toNat ≤ 122
/-- A name. -/
def nameB (s : ByteArray) : Bool := decide ((∀ j, (h : j < s.size) → 97 ≤ s[j].toNat ∧ s[j].toNat ≤ 122) ∧ 1 ≤ s.size ∧ s.size ≤ 8)
theorem okTo_zero (s : ByteArray) : okTo s 0 := fun j _ h => by omega
theorem okTo_succ {s : ByteArray} {k : Nat} (h : okTo s k) (hk : k < s.size) (h1 : ¬ s[k].toNat < 97) (h2 : ¬ 122 < s[k].toNat) : okTo s (k + 1) := fun j hj hjk => by
  by_cases e : j = k
  · subst e; omega
  · exact h j hj (by omega)
theorem nameB_bad {s : ByteArray} {k : Nat} (hk : k < s.size) (h : s[k].toNat < 97 ∨ 122 < s[k].toNat) : nameB s = false := by
  unfold nameB
  refine decide_eq_false fun ⟨h1, _⟩ => ?_
  have := h1 k hk
  omega
theorem nameB_good {s : ByteArray} (h : okTo s s.size) (h1 : 1 ≤ s.size) (h2 : s.size ≤ 8) : nameB s = true := by
  unfold nameB; exact decide_eq_true ⟨fun j hj => h j hj hj, h1, h2⟩
theorem nameB_size {s : ByteArray} (h : ¬ (1 ≤ s.size ∧ s.size ≤ 8)) : nameB s = false := by
  unfold nameB; exact decide_eq_false fun ⟨_, h1⟩ => h h1

theorem spec_IsName (s : ByteArray) (hs : s.size ≤ maxLen) (w : World) : Calls Try.prog 23 #[.string s] w fun e w' => e = .returned (.bool (nameB s)) ∧ w = w' := by
  unfold maxLen at hs
  go_enter Try.func23, Try.ntmps23
  go_wp2_with fail
  go_loop [3] (fun i => ∃ k : Nat, k ≤ s.size ∧ i = .int .i64 k ∧ okTo s k) (fun i => s.size - (intOf i).toNat)
  case atStart => exact ⟨0, Nat.zero_le _, rfl, okTo_zero s⟩
  case round =>
    obtain ⟨k, hk, rfl, hok⟩ := hrel
    by_cases hlt : k < s.size
    · by_cases h1 : s[k].toNat < 97
      · go_wp2
        all_goals (go_ret; exact ⟨ret_bool (nameB_bad hlt (.inl h1)).symm, rfl⟩)
      · by_cases h2 : 122 < s[k].toNat
        · go_wp2
          all_goals (go_ret; exact ⟨ret_bool (nameB_bad hlt (.inr h2)).symm, rfl⟩)
        · go_wp2
          go_round
          case rel => exact ⟨k + 1, by omega, by go_num, okTo_succ hok hlt h1 h2⟩
          case measure => simp [intOf]; omega
    · have e : k = s.size := by omega
      subst e
      by_cases h1 : 1 ≤ s.size
      · by_cases h2 : s.size ≤ 8
        · go_wp2
          all_goals (go_ret; exact ⟨ret_bool (by rw [nameB_good hok h1 h2]; simp; omega), rfl⟩)
        · go_wp2
          all_goals (go_ret; exact ⟨ret_bool (by rw [nameB_size (s := s) (by omega)] <;> first | rfl | (simp; done) | (simp; omega)), rfl⟩)
      · go_wp2
        all_goals (go_ret; exact ⟨ret_bool (by rw [nameB_size (s := s) (by omega)] <;> first | rfl | (simp; done) | (simp; omega)), rfl⟩)
theorem impl_IsName (s : ByteArray) (hs : s.size ≤ maxLen) (w : World) : Calls Try.prog 24 #[.string s] w fun e w' => e = .returned (.bool (nameB s)) ∧ w = w' := by
  unfold maxLen at hs
  go_enter Try.func24, Try.ntmps24
  go_wp2_with fail
  go_loop [3, 6] (fun _ i => ∃ k : Nat, k ≤ s.size ∧ i = .int .i64 k ∧ okTo s k) (fun _ i => s.size - (intOf i).toNat)
  case atStart => exact ⟨0, Nat.zero_le _, rfl, okTo_zero s⟩
  case round =>
    obtain ⟨k, hk, rfl, hok⟩ := hrel
    by_cases hlt : k < s.size
    · by_cases h1 : s[k].toNat < 97
      · go_wp2
        all_goals (go_ret; exact ⟨ret_bool (nameB_bad hlt (.inl h1)).symm, rfl⟩)
      · by_cases h2 : 122 < s[k].toNat
        · go_wp2
          all_goals (go_ret; exact ⟨ret_bool (nameB_bad hlt (.inr h2)).symm, rfl⟩)
        · go_wp2
          go_round
          case rel => exact ⟨k + 1, by omega, by go_num, okTo_succ hok hlt h1 h2⟩
          case measure => simp [intOf]; omega
    · have e : k = s.size := by omega
      subst e
      by_cases h1 : 1 ≤ s.size
      · by_cases h2 : s.size ≤ 8
        · go_wp2
          all_goals (go_ret; exact ⟨ret_bool (by rw [nameB_good hok h1 h2]; simp; omega), rfl⟩)
        · go_wp2
          all_goals (go_ret; exact ⟨ret_bool (by rw [nameB_size (s := s) (by omega)] <;> first | rfl | (simp; done) | (simp; omega)), rfl⟩)
      · go_wp2
        all_goals (go_ret; exact ⟨ret_bool (by rw [nameB_size (s := s) (by omega)] <;> first | rfl | (simp; done) | (simp; omega)), rfl⟩)
/-- The check number behind some bytes. -/
def chk (n : Int) (l : List UInt8) : Int := l.foldl (fun n c => (739 * n + (c.toNat : Int) + 67) % 65003) n
theorem chk_snoc (n : Int) (l : List UInt8) (c : UInt8) : chk n (l ++ [c]) = (739 * chk n l + (c.toNat : Int) + 67) % 65003 := by simp [chk, List.foldl_append]
theorem chk_bound (n : Int) (l : List UInt8) (h0 : 0 ≤ n) (h1 : n < 65003) : 0 ≤ chk n l ∧ chk n l < 65003 := by
  unfold chk
  induction l generalizing n with
  | nil => exact ⟨h0, h1⟩
  | cons c l ih => exact ih ((739 * n + (c.toNat : Int) + 67) % 65003) (by omega) (by omega)
theorem take_snoc (s : ByteArray) (k : Nat) (h : k < s.size) : s.data.toList.take (k + 1) = s.data.toList.take k ++ [s[k]] := by
  rw [List.take_succ_eq_append_getElem (by simpa using h)]; rfl
theorem take_all (s : ByteArray) : s.data.toList.take s.size = s.data.toList := List.take_of_length_le (by simp)

theorem spec_l01Check (s : ByteArray) (n : Int) (h0 : 0 ≤ n) (h1 : n < 65003) (hs : s.size ≤ maxLen) (w : World) : Calls Try.prog 44 #[.int .i64 n, .string s] w fun e w' => e = .returned (.int .i64 (chk n s.data.toList)) ∧ w = w' := by
  unfold maxLen at hs
  go_enter Try.func44, Try.ntmps44
  go_wp2_with fail
  go_loop [0, 5] (fun m i => ∃ k : Nat, k ≤ s.size ∧ i = .int .i64 k ∧ m = .int .i64 (chk n (s.data.toList.take k))) (fun _ i => s.size - (intOf i).toNat)
  case atStart => exact ⟨0, Nat.zero_le _, rfl, rfl⟩
  case round =>
    obtain ⟨k, hk, rfl, rfl⟩ := hrel
    have hb := chk_bound n (s.data.toList.take k) h0 h1
    obtain ⟨b0, b1⟩ := hb
    by_cases hlt : k < s.size
    · have HS := Lib.hid (chk_snoc n (s.data.toList.take k) s[k])
      have HT := Lib.hid (take_snoc s k hlt)
      generalize hc : chk n (s.data.toList.take k) = c at *
      have c0 := s[k].toNat_lt
      clear hc
      go_wp2
      go_round
      case rel => exact ⟨k + 1, by omega, by go_num, by rw [HT.out, HS.out]⟩
      case measure => simp [intOf]; omega
    · have e : k = s.size := by omega
      subst e
      go_wp2
      go_ret
      exact ⟨ret_int (by rw [take_all]), rfl⟩
def inB (n l h : Int) : Bool := decide (l ≤ n) && decide (n ≤ h)
theorem inB_yes {n l h : Int} (h1 : l ≤ n) (h2 : n ≤ h) : inB n l h = true := by simp [inB, h1, h2]
theorem inB_no {n l h : Int} (h1 : ¬ (l ≤ n ∧ n ≤ h)) : inB n l h = false := by simp [inB]; omega
theorem spec_l00In (n l h : Int) (w : World) : Calls Try.prog 43 #[.int .i64 n, .int .i64 l, .int .i64 h] w fun e w' => e = .returned (.bool (inB n l h)) ∧ w = w' := by
  by_cases h1 : l ≤ n
  · by_cases h2 : n ≤ h
    · rw [inB_yes h1 h2]
      go_enter Try.func43, Try.ntmps43
      go_wp2
      go_ret
      exact ⟨ret_bool (by simp <;> omega), rfl⟩
    · rw [inB_no (by omega)]
      go_enter Try.func43, Try.ntmps43
      go_wp2
      go_ret
      exact ⟨ret_bool (by simp <;> omega), rfl⟩
  · rw [inB_no (by omega)]
    go_enter Try.func43, Try.ntmps43
    go_wp2
    go_ret
    exact ⟨rfl, rfl⟩
theorem impl_within (n l h : Int) (w : World) : Calls Try.prog 45 #[.int .i64 n, .int .i64 l, .int .i64 h] w fun e w' => e = .returned (.bool (inB n l h)) ∧ w = w' := by
  by_cases h1 : l ≤ n
  · by_cases h2 : n ≤ h
    · rw [inB_yes h1 h2]
      go_enter Try.func45, Try.ntmps45
      go_wp2
      go_ret
      exact ⟨ret_bool (by simp <;> omega), rfl⟩
    · rw [inB_no (by omega)]
      go_enter Try.func45, Try.ntmps45
      go_wp2
      go_ret
      exact ⟨ret_bool (by simp <;> omega), rfl⟩
  · rw [inB_no (by omega)]
    go_enter Try.func45, Try.ntmps45
    go_wp2
    go_ret
    exact ⟨rfl, rfl⟩
theorem spec_CheckOf_yes (s : ByteArray) (n : Int) (h0 : 0 ≤ n) (h1 : n ≤ 65002) (hs : s.size ≤ maxLen) (w : World) : Calls Try.prog 27 #[.int .i64 n, .string s] w fun e w' => e = .returned (.tuple #[.int .i64 (chk n s.data.toList), .bool true]) ∧ w = w' := by
  have hb := inB_yes h0 h1
  go_enter Try.func27, Try.ntmps27
  go_wp2_with (first | (go_at_call 43; refine (spec_l00In _ _ _ _).mono ?_; rintro e w' ⟨rfl, rfl⟩) | (go_at_call 44; refine (spec_l01Check _ _ h0 (by omega) hs _).mono ?_; rintro e w' ⟨rfl, rfl⟩))
  go_ret2
  exact ⟨rfl, rfl⟩
theorem spec_CheckOf_no (s : ByteArray) (n : Int) (h : ¬ (0 ≤ n ∧ n ≤ 65002)) (w : World) : Calls Try.prog 27 #[.int .i64 n, .string s] w fun e w' => e = .returned (.tuple #[.int .i64 0, .bool false]) ∧ w = w' := by
  have hb := inB_no h
  clear h
  go_enter Try.func27, Try.ntmps27
  go_wp2_with (first | (go_at_call 43; refine (spec_l00In _ _ _ _).mono ?_; rintro e w' ⟨rfl, rfl⟩))
  go_ret2
  exact ⟨rfl, rfl⟩
theorem impl_CheckOf_no (s : ByteArray) (n : Int) (h : ¬ (0 ≤ n ∧ n ≤ 65002)) (w : World) : Calls Try.prog 28 #[.int .i64 n, .string s] w fun e w' => e = .returned (.tuple #[.int .i64 0, .bool false]) ∧ w = w' := by
  have hb := inB_no h
  clear h
  go_enter Try.func28, Try.ntmps28
  go_wp2_with (first | (go_at_call 45; refine (impl_within _ _ _ _).mono ?_; rintro e w' ⟨rfl, rfl⟩))
  go_ret2
  exact ⟨rfl, rfl⟩
theorem impl_CheckOf_yes (s : ByteArray) (n : Int) (h0 : 0 ≤ n) (h1 : n ≤ 65002) (hs : s.size ≤ maxLen) (w : World) : Calls Try.prog 28 #[.int .i64 n, .string s] w fun e w' => e = .returned (.tuple #[.int .i64 (chk n s.data.toList), .bool true]) ∧ w = w' := by
  have hb := inB_yes h0 h1
  unfold maxLen at hs
  go_enter Try.func28, Try.ntmps28
  go_wp2_with (first | (go_at_call 45; refine (impl_within _ _ _ _).mono ?_; rintro e w' ⟨rfl, rfl⟩))
  clear hb
  go_loop [0, 6, 12] (fun m _ i => ∃ k : Nat, k ≤ s.size ∧ i = .int .i64 k ∧ m = .int .i64 (chk n (s.data.toList.take k))) (fun _ _ i => s.size - (intOf i).toNat)
  case atStart => exact ⟨0, Nat.zero_le _, rfl, rfl⟩
  case round =>
    obtain ⟨k, hk, rfl, rfl⟩ := hrel
    have hb := chk_bound n (s.data.toList.take k) h0 (by omega)
    obtain ⟨b0, b1⟩ := hb
    by_cases hlt : k < s.size
    · have HS := Lib.hid (chk_snoc n (s.data.toList.take k) s[k])
      have HT := Lib.hid (take_snoc s k hlt)
      generalize hc : chk n (s.data.toList.take k) = c at *
      have c0 := s[k].toNat_lt
      clear hc
      go_wp2
      go_round
      case rel => exact ⟨k + 1, by omega, by go_num, by rw [HT.out, HS.out]⟩
      case measure => simp [intOf]; omega
    · have e : k = s.size := by omega
      subst e
      go_wp2
      go_ret2
      exact ⟨by rw [take_all]; rfl, rfl⟩
end Go.Proofs.Ytdbkhlkofegaaaa
