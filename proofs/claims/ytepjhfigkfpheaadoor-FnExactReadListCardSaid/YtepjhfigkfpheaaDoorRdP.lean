/- The number with a decimal text, in plain Lean: what the reference reckons and what the library's parser tells, of each text. Conditions: none. -/
import Derived.Test.YtepjhfigkfpheaaDoorDec
import Derived.Lib.ParseIntBCases
namespace Go.Proofs.YtepjhfigkfpheaaDoor
open Go.RowKit Go.Lib

/-- The number behind some digits; other bytes are passed over. -/
def valN (n : Nat) (l : List UInt8) : Nat := l.foldl (fun n c => if 48 ≤ c.toNat ∧ c.toNat ≤ 57 then 10 * n + (c.toNat - 48) else n) n
theorem valN_snoc (n : Nat) (l : List UInt8) (c : UInt8) : valN n (l ++ [c]) = if 48 ≤ c.toNat ∧ c.toNat ≤ 57 then 10 * valN n l + (c.toNat - 48) else valN n l := by simp [valN, List.foldl_append]
theorem valN_bound (l : List UInt8) : valN 0 l < 10 ^ l.length := by
  have key : ∀ (l : List UInt8) (n k : Nat), n < 10 ^ k → valN n l < 10 ^ (k + l.length) := by
    intro l
    induction l with
    | nil => intro n k h; exact h
    | cons c l ih =>
      intro n k h
      rw [List.length_cons, show k + (l.length + 1) = (k + 1) + l.length by omega]
      refine ih _ (k + 1) ?_
      rw [Nat.pow_succ]
      dsimp only
      split <;> omega
  simpa using key l 0 0 (by simp)
theorem valN_take (l : List UInt8) (k : Nat) (hk : k < l.length) : valN 0 (l.take (k + 1)) = if 48 ≤ l[k].toNat ∧ l[k].toNat ≤ 57 then 10 * valN 0 (l.take k) + (l[k].toNat - 48) else valN 0 (l.take k) := by
  rw [List.take_succ_eq_append_getElem hk, valN_snoc]
theorem digit_toNat (u : Nat) : (UInt8.ofNat (48 + u % 10)).toNat = 48 + u % 10 := by rw [UInt8.toNat_ofNat']; omega
theorem valN_dec (u : Nat) : valN 0 (decDigits u) = u := by
  induction u using Nat.strongRecOn with
  | _ u ih =>
    by_cases h : u < 10
    · have e := digit_toNat u
      rw [Nat.mod_eq_of_lt h] at e
      rw [decDigits, dif_pos h, show [UInt8.ofNat (48 + u)] = [] ++ [UInt8.ofNat (48 + u)] from rfl, valN_snoc, e]
      rw [if_pos (by omega)]
      simp [valN]
    · rw [decDigits, dif_neg h, valN_snoc, ih (u / 10) (by omega), digit_toNat, if_pos (by omega)]
      omega
theorem dec_digits (u : Nat) : ∀ c ∈ decDigits u, 48 ≤ c.toNat ∧ c.toNat ≤ 57 := by
  induction u using Nat.strongRecOn with
  | _ u ih =>
    intro c hc
    by_cases h : u < 10
    · have e := digit_toNat u
      rw [Nat.mod_eq_of_lt h] at e
      rw [decDigits, dif_pos h] at hc
      simp only [List.mem_singleton] at hc
      subst hc; omega
    · rw [decDigits, dif_neg h] at hc
      rcases List.mem_append.1 hc with hc | hc
      · exact ih (u / 10) (by omega) c hc
      · simp only [List.mem_singleton] at hc
        subst hc; have := digit_toNat u; omega
theorem dec_cons (u : Nat) : ∃ c r, decDigits u = c :: r ∧ 48 ≤ c.toNat ∧ c.toNat ≤ 57 := by
  have hp : 0 < (decDigits u).length := by rw [decDigits_length]; exact nDigits_pos u
  match h : decDigits u with
  | [] => simp [h] at hp
  | c :: r => exact ⟨c, r, rfl, dec_digits u c (by simp [h])⟩
theorem dec_len16 {u : Nat} (h : u ≤ 1000000000000000) : 1 ≤ (decDigits u).length ∧ (decDigits u).length ≤ 16 := by
  rw [decDigits_length]
  refine ⟨nDigits_pos u, ?_⟩
  by_cases h0 : nDigits u ≤ 16
  · exact h0
  · exfalso
    have key : ∀ (k u : Nat), k + 1 ≤ nDigits u → 10 ^ k ≤ u ∨ k = 0 := by
      intro k
      induction k with
      | zero => intro u _; exact .inr rfl
      | succ k ih =>
        intro u hu
        by_cases h : u < 10
        · rw [nDigits_small h] at hu; omega
        · rw [nDigits_big h] at hu
          rcases ih (u / 10) (by omega) with h1 | h1
          · left; rw [Nat.pow_succ]; omega
          · subst h1; left; simp; omega
    rcases key 16 u (by omega) with h1 | h1 <;> omega
/-- The sign that a text bears. -/
def sgn (l : List UInt8) (n : Nat) : Int := if l.head?.map (·.toNat) = some 45 then -(n : Int) else n
theorem sgn_itoa (v : Int) : sgn (itoa v) (valN 0 (itoa v)) = v := by
  rcases Int.lt_or_le v 0 with h | h
  · have e : itoa v = 45 :: decDigits v.natAbs := by unfold itoa; rw [if_pos h]
    rw [e]
    have : valN 0 (45 :: decDigits v.natAbs) = valN 0 (decDigits v.natAbs) := rfl
    rw [this, valN_dec]
    unfold sgn
    rw [if_pos (by rfl)]; omega
  · have e : itoa v = decDigits v.toNat := by unfold itoa; rw [if_neg (by omega)]
    obtain ⟨c, r, hc, h1, h2⟩ := dec_cons v.toNat
    rw [e, valN_dec]
    unfold sgn
    rw [hc, if_neg (by simp; omega)]; omega
theorem itoa_len (v : Int) (h0 : -1000000000000000 ≤ v) (h1 : v ≤ 1000000000000000) : 1 ≤ (itoa v).length ∧ (itoa v).length ≤ 17 := by
  unfold itoa
  split
  · have := dec_len16 (u := v.natAbs) (by omega); simp; omega
  · have := dec_len16 (u := v.toNat) (by omega); omega
/-- What both answer: the number, if the text is its. -/
def rd (l : List UInt8) : Int × Bool :=
  if 1 ≤ l.length ∧ l.length ≤ 17 ∧ (-1000000000000000 ≤ sgn l (valN 0 l) ∧ sgn l (valN 0 l) ≤ 1000000000000000) ∧ itoa (sgn l (valN 0 l)) = l then (sgn l (valN 0 l), true) else (0, false)
theorem rd_good {l : List UInt8} {v : Int} (h0 : -1000000000000000 ≤ v) (h1 : v ≤ 1000000000000000) (h : itoa v = l) : rd l = (v, true) := by
  subst h
  unfold rd
  rw [sgn_itoa, if_pos ⟨(itoa_len v h0 h1).1, (itoa_len v h0 h1).2, ⟨h0, h1⟩, rfl⟩]
theorem rd_bad {l : List UInt8} (h : ∀ v : Int, -1000000000000000 ≤ v → v ≤ 1000000000000000 → itoa v ≠ l) : rd l = (0, false) := by
  unfold rd
  rw [if_neg]
  rintro ⟨_, _, ⟨h0, h1⟩, h2⟩
  exact h _ h0 h1 h2
theorem rd_range (l : List UInt8) : -1000000000000000 ≤ (rd l).1 ∧ (rd l).1 ≤ 1000000000000000 := by
  unfold rd
  split
  · rename_i h; exact h.2.2.1
  · exact ⟨by decide, by decide⟩
theorem valN_le : ∀ (l : List UInt8) (a : Nat), a ≤ valN a l
  | [], a => Nat.le_refl _
  | c :: l, a => by
    refine Nat.le_trans ?_ (valN_le l _)
    dsimp only
    split <;> omega
theorem parse_digits (M : Nat) (hM : M < 18446744073709551616) : ∀ (l : List UInt8) (a : Nat), (∀ c ∈ l, 48 ≤ c.toNat ∧ c.toNat ≤ 57) → valN a l ≤ M → valN a l ≤ 1000000000000000 → parseUintM M a l = .ok (valN a l)
  | [], a, _, _, _ => rfl
  | c :: l, a, hd, hm, hk => by
    have hc := hd c (by simp)
    have e : valN a (c :: l) = valN (10 * a + (c.toNat - 48)) l := by
      show valN (if 48 ≤ c.toNat ∧ c.toNat ≤ 57 then 10 * a + (c.toNat - 48) else a) l = _
      rw [if_pos hc]
    have hle := valN_le l (10 * a + (c.toNat - 48))
    rw [e] at hm hk ⊢
    unfold parseUintM
    rw [if_pos hc, if_neg (by omega), if_neg (by omega), show a * 10 + (c.toNat - 48) = 10 * a + (c.toNat - 48) by omega]
    exact parse_digits M hM l _ (fun x hx => hd x (by simp [hx])) hm hk
theorem parse_itoa (v : Int) (h0 : -1000000000000000 ≤ v) (h1 : v ≤ 1000000000000000) : parseIntB 64 (itoa v) = .ok v := by
  have key : ∀ u : Nat, u ≤ 1000000000000000 → parseUintB 64 (decDigits u) = .ok u := by
    intro u hu
    obtain ⟨c, r, hc, _⟩ := dec_cons u
    unfold parseUintB
    rw [if_neg (by rw [hc]; simp), parse_digits _ (by omega) _ _ (dec_digits u) (by rw [valN_dec]; omega) (by rw [valN_dec]; omega), valN_dec]
  unfold itoa
  split
  · rw [parseIntB_minus, key _ (by omega)]
    unfold signedC
    simp only
    rw [if_neg (by omega)]
    congr 1; omega
  · obtain ⟨c, r, hc, hc1, hc2⟩ := dec_cons v.toNat
    have := key v.toNat (by omega)
    rw [hc] at this ⊢
    rw [parseIntB_plain _ _ _ (by omega) (by omega), this]
    unfold signlessC
    simp only
    rw [if_neg (by omega)]
    congr 1; omega
theorem rd_parse (l : List UInt8) : rd l = match parseIntB 64 l with
    | .ok v => if (-1000000000000000 ≤ v ∧ v ≤ 1000000000000000) ∧ itoa v = l then (v, true) else (0, false)
    | _ => (0, false) := by
  by_cases h : ∃ v : Int, -1000000000000000 ≤ v ∧ v ≤ 1000000000000000 ∧ itoa v = l
  · obtain ⟨v, h0, h1, rfl⟩ := h
    rw [rd_good h0 h1 rfl, parse_itoa v h0 h1]
    simp only
    rw [if_pos ⟨⟨h0, h1⟩, trivial⟩]
  · have hb : ∀ v : Int, -1000000000000000 ≤ v → v ≤ 1000000000000000 → itoa v ≠ l := fun v h0 h1 e => h ⟨v, h0, h1, e⟩
    rw [rd_bad hb]
    cases parseIntB 64 l
    case ok v =>
      simp only
      rw [if_neg (fun ⟨⟨h0, h1⟩, e⟩ => hb v h0 h1 e)]
    all_goals rfl
theorem str_eq (l : List UInt8) (s : ByteArray) : ((⟨l.toArray⟩ : ByteArray) = s) ↔ l = s.data.toList := by
  constructor
  · rintro rfl; simp
  · intro h; subst h; cases s; simp
theorem sl_eq {l : List UInt8} {s : ByteArray} (h : l = s.data.toList) : (l == s.toList) = true := by rw [ByteArray.toList_eq, h]; simp
theorem sl_ne {l : List UInt8} {s : ByteArray} (h : ¬ l = s.data.toList) : (l == s.toList) = false := by rw [ByteArray.toList_eq]; simpa using h
end Go.Proofs.YtepjhfigkfpheaaDoor
