/- The given statement FnSums: the program's function and the reference's agree, for every input. Conditions: none beyond the statement's own. -/
import Derived.Test.YtcmmafkmfahijaaSumL
import Derived.Test.YtcmmafkmfahijaaNumb
import Derived.Test.YtcmmafkmfahijaaOpen
import Derived.Test.YtcmmafkmfahijaaRows
import Derived.ProofKit
import Derived.OpenShut
import Derived.ShutString
import Derived.ChangeOld
import Derived.Below
import Derived.LoopTactic
import Derived.Deep.RegionHeld3
import Derived.Deep.DeepCutAuto
namespace Go.Proofs.Ytcmmafkmfahijaa.fnSums
open Go.ChangeShapes Go.WideShapes Go.ChangeAt Go.RowKit
open Go.ChangeMaps (open_string shut_string)
set_option linter.unusedVariables false
open Ieee (single double)
theorem Bytes.step {n : Nat} {a : Option Addr} {w w' : World} (hb : Below w.heap.size w w') (h : Bytes w.heap.size a n w) : Bytes w'.heap.size a n w' := by
  rcases h with h | ⟨b, o, e, l, h⟩
  · exact .inl h
  · exact .inr ⟨b, o, e, Nat.lt_of_lt_of_le l hb.size, fun i hi => (h i hi).imp fun v hv => ⟨hv.1, hv.2.1, cellKeep hb hv.2.2⟩⟩
theorem long_no {n : Nat} (h : n ≤ 1048576) : decide ((1048576 : Int) < (n : Int)) = false := decide_eq_false (by omega)
theorem long_yes {n : Nat} (h : ¬ n ≤ 1048576) : decide ((1048576 : Int) < (n : Int)) = true := decide_eq_true (by omega)
set_option maxRecDepth 100000
set_option maxHeartbeats 9600000 in
theorem walk (W : World) (a0 : Value) (w0 : Is_B a0 W) (a1 : Value) (w1 : Is_B a1 W) : Calls Try.prog 9 #[a0, a1] W fun e w' => e = .returned (.bool true) ∧ Below W.heap.size W w' := by
  obtain ⟨a, n, c, rfl, hn, hA⟩ := w0
  obtain ⟨a', n', c', rfl, hn', hM⟩ := w1
  have HA := Lib.hid hA
  have HM := Lib.hid hM
  clear hA hM
  by_cases h1 : n ≤ 1048576
  case neg =>
    have g1 := long_yes h1
    go_enter Try.func9, Try.ntmps9
    go_wp2_with (go_at_call 25; go_in)
    go_ret
    exact ⟨rfl, Below.refl _ _⟩
  by_cases h2 : n' ≤ 1048576
  case neg =>
    have g1 := long_no h1
    have g2 := long_yes h2
    go_enter Try.func9, Try.ntmps9
    go_wp2_with (go_at_call 25; go_in)
    go_ret
    exact ⟨rfl, Below.refl _ _⟩
  have g1 := long_no h1
  have g2 := long_no h2
  obtain ⟨i0, hi0, hz0, hz1, hz2⟩ := info_parts infoF
  go_enter Try.func9, Try.ntmps9
  go_wp2_with (first | (go_at_call 25; go_in) | (go_at_call 38; refine (b10At_of W.heap.size a n c 0 20 (by omega) (by omega) (by omega) h1 _ HA.out).mono ?_; rintro e wx ⟨v, rfl, ⟨v0, v1⟩, rfl⟩; clear g1 g2; obtain ⟨m, rfl⟩ : ∃ m : Nat, v = m := ⟨v.toNat, by omega⟩))
  refine (any_numbers a n c m hn (by omega) _ HA.out).mono ?_
  rintro e w1 ⟨gl, cl, L, rfl, hL, hol, b1⟩
  have LL := Lib.hid hL
  have F1 := Lib.hid (FS.owns hol)
  have l1 := (hol.lt gl rfl).2
  have B1 := Lib.hid b1
  have HM1 := Lib.hid (Bytes.step b1 HM.out)
  have hs1 := b1.size
  have capsL := Lib.hid (own_caps hol)
  have IFS : Hid (∀ {wr : World}, Below w1.heap.size w1 wr → FS wr gl 0 m L) := Lib.hid (fun h => FS.below h l1 F1.out)
  clear hol b1 hL
  go_wp2_with fail
  have hcl := capsL.out
  go_loopw [7, 8, 9] (fun v s i wr => ∃ j g cap r : Nat, j ≤ m ∧ i = .int .i64 j ∧ v = .slice (some ⟨g, 0, none⟩) j cap ∧ s = .float .f32 r ∧ Same .f32 r (sumF L j) ∧ r < 4294967296 ∧ RowAt w1 (fun _ => 1065353216) j g cap wr) (fun _ _ i _ => m - (RowKit.intOf i).toNat)
  case atStart => exact ⟨0, w1.heap.size, 0, 0, Nat.zero_le _, rfl, rfl, rfl, Same.refl _ _, Nat.zero_lt_succ _, RowAt.start w1 _⟩
  case round =>
    obtain ⟨j, g, cap, r, hj, rfl, rfl, rfl, hr, hrl, H⟩ := hrel
    have HH := Lib.hid H
    have hsz := H.2.size
    by_cases hlt : j < m
    · have x0 := IFS.out H.2 j hlt
      rw [Nat.zero_add] at x0
      have HR := Lib.hid hr
      clear H hr
      go_wp2_with (first
        | (at_builtin; refine wpList_append_lies _ rfl _ _ 22 rfl w1.heap.size 23 i0 (.float .f32 0) 1 4 Try.underlying22 hi0 hz0 hz1 hz2 rfl (by decide) _ j _ rfl (HH.out.1.alloc _) ⟨wr.heap.size, 0, none⟩ 1 1 [.float .f32 1065353216] rfl rfl ?c1 ?c2 ?c3 ?c4 ?c5 ?c6 (wr.heap.size + 1) ?c7 ?_; rotate_left 7; intro g2 c2 w3 hown3 hgrow hat hlt3; have HX := Lib.hid (RowAt.next HH.out hown3 hgrow); have x1 := IFS.out HX.out.2 j hlt; rw [Nat.zero_add] at x1; clear hown3 hgrow hat hlt3))
      case c1 =>
        intro j u hj
        match j, hj with
        | 0, hj => simp at hj; subst hj; simp [Addr.add]
      case c2 => intro u hu; simp at hu; subst hu; rfl
      case c3 => omega
      case c4 => unfold maxLen; omega
      case c5 => omega
      case c6 => simp; omega
      case c7 => simp
      all_goals
        go_roundw
        case rel => exact ⟨j + 1, g2, c2, _, by omega, by go_num, rfl, rfl, fval_same .add _ HR.out (Same.refl _ _), fval_lt _ _ _ _, HX.out.drewN _⟩
        case measure => simp [RowKit.intOf]; omega
    · obtain rfl : j = m := by omega
      have HR := Lib.hid hr
      have hF := IFS.out H.2
      have FL := Lib.hid hF
      have FO := Lib.hid (FS.owns H.1)
      have B2 := Lib.hid (belowNext B1.out H.2)
      have HRL := Lib.hid hrl
      clear H hr hF hrl
      obtain ⟨h, hh⟩ : ∃ h, h = (j + 1) / 2 := ⟨_, rfl⟩
      have hq : ((j : Int) + 1) / 2 = (h : Int) := by omega
      have q1 : h ≤ j := by omega
      have q2 : h ≤ cl := by omega
      have HQ := Lib.hid hh
      clear hh
      go_wp2_with fail
      refine (sum_of gl 0 j cl L (by omega) _ FL.out).mono ?_
      rintro e w4 ⟨ra, ma, rfl, ha, rfl⟩
      have SA := Lib.hid (Same.trans ha (Same.symm HR.out))
      clear ha
      go_wp2_with fail
      refine (dot_of gl 0 cl j g 0 cap L (fun _ => 1065353216) (by omega) _ (by exact FL.out) (by exact FO.out)).mono ?_
      rintro e w4 ⟨rb, mb, rfl, hb, rfl⟩
      have SB := Lib.hid (Same.trans hb (Same.trans (dot_ones LL.out j) (Same.symm HR.out)))
      clear hb
      go_wp2_with fail
      refine (pairs_at gl 0 j cl L j (by omega) hcl.1 hcl.2 _ (by exact FL.out) (by omega)).mono ?_
      rintro e w4 ⟨rp, mp, rfl, hp, rfl⟩
      have SP := Lib.hid hp
      clear hp
      rw [hq]
      clear hq
      go_wp2_with fail
      refine (pairs_at gl 0 h cl L j (by omega) q2 hcl.2 _ (by exact FL.out) (by omega)).mono ?_
      rintro e w4 ⟨rl, ml, rfl, hl, rfl⟩
      have SL := Lib.hid hl
      clear hl
      by_cases hj1 : 1 < j
      · have hd : decide ((1 : Int) < (j : Int)) = true := decide_eq_true (by omega)
        have hne : ¬ cl = h := by have := HQ.out; omega
        go_wp2_with fail
        refine (pairs_at gl h (j - h) (cl - h) L j (by omega) (by omega) (by omega) _ (by exact FL.out) (by omega)).mono ?_
        rintro e w4 ⟨rr, mr, rfl, hr, rfl⟩
        have SR := Lib.hid hr
        clear hr
        have HP : Hid (∀ (w : World), Same .f32 rp (fval .add .f32 rl rr w)) := Lib.hid (fun w => Same.trans SP.out (by rw [pairF_halves L hj1, ← HQ.out]; exact Same.symm (fval_same .add w SL.out SR.out)))
        go_wp2_with (first
          | (go_at_call 27; first | ((with_reducible refine (spec_same_of SA.out HRL.out _).mono ?_); rintro e w' ⟨rfl, rfl⟩) | ((with_reducible refine (spec_same_of SB.out HRL.out _).mono ?_); rintro e w' ⟨rfl, rfl⟩) | (refine (spec_same_of (HP.out _) (fval_lt _ _ _ _) _).mono ?_; rintro e w' ⟨rfl, rfl⟩)))
        -- REST1
        refine (any_whole a' n' c' j hn' (by omega) _ (Bytes.step (below_drewN B2.out _) HM.out)).mono ?_
        rintro e w5 ⟨gz, cz, z, rfl, hz, hoz, b5⟩
        have Z := Lib.hid hz
        have FZ := Lib.hid (FS.owns hoz)
        have capsZ := own_caps hoz
        have lz := (hoz.lt gz rfl).2
        have B5 := Lib.hid (belowNext (below_drewN B2.out _) b5)
        have hs5 := B5.out.size
        have LZ := Lib.hid (hoz.cells (g := gz) rfl)
        clear hoz b5 hz
        have zb := zsum_bound Z.out 0 j
        have zq := zsum_bound (sq_bound Z.out) 0 j
        have eS := Lib.hid (sumF_K Z.out j (by omega))
        have eP := Lib.hid (pairF_K Z.out j 0 j (Nat.le_refl _) (by omega))
        have eD := Lib.hid (dotF_K Z.out j (by omega))
        have eW := Lib.hid (dotD_K Z.out j (by omega))
        obtain ⟨S, hS⟩ : ∃ S, S = zsum z 0 j := ⟨_, rfl⟩
        obtain ⟨Q, hQ⟩ : ∃ Q, Q = zsum (fun i => z i * z i) 0 j := ⟨_, rfl⟩
        rw [← hS] at zb eS eP
        rw [← hQ] at zq eD eW
        have ES := Lib.hid hS
        have EQ := Lib.hid hQ
        clear hS hQ
        have oS := K_self S (by omega)
        have oQ := K_self Q (by omega)
        go_wp2_with fail
        refine (sum_of gz 0 j cz (wordsOf z) (by omega) _ (by exact FZ.out)).mono ?_
        rintro e w6 ⟨rc, mc, rfl, hc, rfl⟩
        obtain rfl : rc = K single S := num_of hc eS.out (K_num (by omega))
        clear hc
        go_wp2_with fail
        refine (pairs_at gz 0 j cz (wordsOf z) j (by omega) capsZ.1 capsZ.2 _ (by exact FZ.out) (by omega)).mono ?_
        rintro e w6 ⟨rd, md, rfl, hd', rfl⟩
        obtain rfl : rd = K single S := num_of hd' eP.out (K_num (by omega))
        clear hd'
        go_wp2_with (first
          | (at_builtin; refine wpList_append_own _ rfl _ _ 22 rfl w5.heap.size 23 i0 (.float .f32 0) 1 4 Try.underlying22 hi0 hz0 hz1 hz2 rfl (by decide) (.slice (some ⟨w5.heap.size, 0, none⟩) 0 0) 0 [] rfl (own_new w5 _) ⟨gz, 0, none⟩ j cz (fltL (wordsOf z) j) rfl (by rw [fltL_length, Nat.mul_one]) ?d1 (fltL_one _ _) ?d2 ?d3 ?d4 ?_; rotate_left 4; intro v7 w7 hown7 hgrow7 hiff7; rw [Nat.zero_add, List.nil_append] at hown7; obtain ⟨g7, c7, rfl⟩ := own_some hown7 (fun e => by have := hiff7.1 e; exact absurd this.1 (by simp)); have O7 := Lib.hid (FS.owns hown7); have caps7 := own_caps hown7; have B7 := Lib.hid (Below.grown (belowAlloc (below_drewN (Below.refl w5.heap.size w5) _) _) hgrow7 (by simp) (fun q hq => by cases hq; exact Nat.le_refl _)); clear hown7 hgrow7 hiff7))
        case d1 =>
          intro i u hu
          have hc := LZ.out i u hu
          rw [Go.WideShapes.add_plain, Nat.zero_add] at hc ⊢
          exact ((belowAlloc (below_drewN (Below.refl w5.heap.size w5) _) _).cell (p := ⟨gz, i, none⟩) lz).trans hc
        case d2 => unfold maxLen; omega
        case d3 => omega
        case d4 => simp
        refine (pairs_at g7 0 j c7 (wordsOf z) j (by omega) caps7.1 caps7.2 _ (by exact O7.out) (by omega)).mono ?_
        rintro e w8 ⟨re, me, rfl, he', rfl⟩
        obtain rfl : re = K single S := num_of he' eP.out (K_num (by omega))
        have FZ7 : Hid (FS w7 gz 0 j (wordsOf z)) := Lib.hid (FS.below B7.out lz FZ.out)
        have B8 := Lib.hid (belowNext B5.out B7.out)
        clear he'
        go_wp2_with fail
        refine (dot_of gz 0 cz j gz 0 cz (wordsOf z) (wordsOf z) (by omega) _ (by exact FZ7.out) (by exact FZ7.out)).mono ?_
        rintro e w8 ⟨rf, mf, rfl, hf', rfl⟩
        obtain rfl : rf = K single Q := num_of hf' eD.out (K_num (by omega))
        clear hf'
        go_wp2_with fail
        refine (impl_DotWide gz 0 cz gz 0 cz j (wordsOf z) (wordsOf z) (by omega) _ (by exact FZ7.out) (by exact FZ7.out)).mono ?_
        rintro e w8 ⟨u, rg, mg, rfl, hg', hn', rfl⟩
        obtain rfl : rg = K single Q := wide_of hg' eW.out (by omega) hn'
        clear hg' hn'
        go_wp2_with fail
        go_loopw [32, 33, 34] (fun x y i wr => ∃ k M : Nat, k ≤ j ∧ i = .int .i64 k ∧ x = .int .i64 (zsum z 0 k) ∧ y = .int .i64 (zsum (fun i => z i * z i) 0 k) ∧ wr = w7.drewN M) (fun _ _ i _ => j - (RowKit.intOf i).toNat)
        case atStart => exact ⟨0, _, Nat.zero_le _, rfl, rfl, rfl, rfl⟩
        case round =>
          obtain ⟨k, M, hk, rfl, rfl, rfl, rfl⟩ := hrel
          have x1 := zsum_bound Z.out 0 k
          have x2 := zsum_bound (sq_bound Z.out) 0 k
          by_cases hlt : k < j
          · have c0 : w7.cell? ⟨gz, k, none⟩ = some (.float .f32 (K single (z k))) := by have h := FZ7.out k hlt; rw [Nat.zero_add] at h; exact h
            have zk := Z.out k
            have zk2 : (z k * z k).natAbs ≤ 10000 := sq_bound Z.out k
            have hc := fun v => conv_int zk v
            have U1 := Lib.hid (show zsum z 0 (k + 1) = zsum z 0 k + z k by rw [zsum_succ, Nat.zero_add])
            have U2 := Lib.hid (show zsum (fun i => z i * z i) 0 (k + 1) = zsum (fun i => z i * z i) 0 k + z k * z k by rw [zsum_succ, Nat.zero_add])
            generalize hX : zsum z 0 k = X at *
            generalize hY : zsum (fun i => z i * z i) 0 k = Y at *
            generalize hZ : z k = zz at *
            generalize hZZ : zz * zz = z2 at *
            clear hX hY hZ
            go_wp2_with fail
            go_region
            all_goals
              go_wp2_with fail
              go_roundw
              case rel => exact ⟨k + 1, _, by omega, by go_num, by rw [U1.out], by rw [U2.out], rfl⟩
              case measure => simp [RowKit.intOf]; omega
          · obtain rfl : k = j := by omega
            rw [← ES.out, ← EQ.out]
            have fS := ofInt32 S
            have fQ := ofInt32 Q
            go_wp2_with fail
            go_ret
            exact ⟨rfl, below_drewN B8.out _⟩
        -- REST2
      · have hd : decide ((1 : Int) < (j : Int)) = false := decide_eq_false (by omega)
        have hjh : j - h = 0 := by have := HQ.out; omega
        have hN : ∀ (a : Option Addr) (c : Nat) (w : World), Calls Try.prog 22 #[.slice a (j - h) c] w fun e w' => e = .returned (.tuple #[.float .f32 0, .bool true]) ∧ w' = w := fun a c w => by rw [hjh]; exact pairs_nil a c w
        have HN := Lib.hid hN
        clear hN hjh
        by_cases hne : cl = h
        all_goals
          go_wp2_with (first
            | (go_at_call 22; refine (HN.out _ _ _).mono ?_; rintro e w4 ⟨rfl, rfl⟩)
            | (go_at_call 27; first | ((with_reducible refine (spec_same_of SA.out HRL.out _).mono ?_); rintro e w' ⟨rfl, rfl⟩) | ((with_reducible refine (spec_same_of SB.out HRL.out _).mono ?_); rintro e w' ⟨rfl, rfl⟩)))
          refine (any_whole a' n' c' j hn' (by omega) _ (Bytes.step (below_drewN B2.out _) HM.out)).mono ?_
          rintro e w5 ⟨gz, cz, z, rfl, hz, hoz, b5⟩
          have Z := Lib.hid hz
          have FZ := Lib.hid (FS.owns hoz)
          have capsZ := own_caps hoz
          have lz := (hoz.lt gz rfl).2
          have B5 := Lib.hid (belowNext (below_drewN B2.out _) b5)
          have hs5 := B5.out.size
          have LZ := Lib.hid (hoz.cells (g := gz) rfl)
          clear hoz b5 hz
          have zb := zsum_bound Z.out 0 j
          have zq := zsum_bound (sq_bound Z.out) 0 j
          have eS := Lib.hid (sumF_K Z.out j (by omega))
          have eP := Lib.hid (pairF_K Z.out j 0 j (Nat.le_refl _) (by omega))
          have eD := Lib.hid (dotF_K Z.out j (by omega))
          have eW := Lib.hid (dotD_K Z.out j (by omega))
          obtain ⟨S, hS⟩ : ∃ S, S = zsum z 0 j := ⟨_, rfl⟩
          obtain ⟨Q, hQ⟩ : ∃ Q, Q = zsum (fun i => z i * z i) 0 j := ⟨_, rfl⟩
          rw [← hS] at zb eS eP
          rw [← hQ] at zq eD eW
          have ES := Lib.hid hS
          have EQ := Lib.hid hQ
          clear hS hQ
          have oS := K_self S (by omega)
          have oQ := K_self Q (by omega)
          go_wp2_with fail
          refine (sum_of gz 0 j cz (wordsOf z) (by omega) _ (by exact FZ.out)).mono ?_
          rintro e w6 ⟨rc, mc, rfl, hc, rfl⟩
          obtain rfl : rc = K single S := num_of hc eS.out (K_num (by omega))
          clear hc
          go_wp2_with fail
          refine (pairs_at gz 0 j cz (wordsOf z) j (by omega) capsZ.1 capsZ.2 _ (by exact FZ.out) (by omega)).mono ?_
          rintro e w6 ⟨rd, md, rfl, hd', rfl⟩
          obtain rfl : rd = K single S := num_of hd' eP.out (K_num (by omega))
          clear hd'
          go_wp2_with (first
            | (at_builtin; refine wpList_append_own _ rfl _ _ 22 rfl w5.heap.size 23 i0 (.float .f32 0) 1 4 Try.underlying22 hi0 hz0 hz1 hz2 rfl (by decide) (.slice (some ⟨w5.heap.size, 0, none⟩) 0 0) 0 [] rfl (own_new w5 _) ⟨gz, 0, none⟩ j cz (fltL (wordsOf z) j) rfl (by rw [fltL_length, Nat.mul_one]) ?d1 (fltL_one _ _) ?d2 ?d3 ?d4 ?_; rotate_left 4; intro v7 w7 hown7 hgrow7 hiff7; rw [Nat.zero_add, List.nil_append] at hown7; obtain ⟨g7, c7, rfl⟩ := own_some hown7 (fun e => by have := hiff7.1 e; exact absurd this.1 (by simp)); have O7 := Lib.hid (FS.owns hown7); have caps7 := own_caps hown7; have B7 := Lib.hid (Below.grown (belowAlloc (below_drewN (Below.refl w5.heap.size w5) _) _) hgrow7 (by simp) (fun q hq => by cases hq; exact Nat.le_refl _)); clear hown7 hgrow7 hiff7))
          case d1 =>
            intro i u hu
            have hc := LZ.out i u hu
            rw [Go.WideShapes.add_plain, Nat.zero_add] at hc ⊢
            exact ((belowAlloc (below_drewN (Below.refl w5.heap.size w5) _) _).cell (p := ⟨gz, i, none⟩) lz).trans hc
          case d2 => unfold maxLen; omega
          case d3 => omega
          case d4 => simp
          refine (pairs_at g7 0 j c7 (wordsOf z) j (by omega) caps7.1 caps7.2 _ (by exact O7.out) (by omega)).mono ?_
          rintro e w8 ⟨re, me, rfl, he', rfl⟩
          obtain rfl : re = K single S := num_of he' eP.out (K_num (by omega))
          have FZ7 : Hid (FS w7 gz 0 j (wordsOf z)) := Lib.hid (FS.below B7.out lz FZ.out)
          have B8 := Lib.hid (belowNext B5.out B7.out)
          clear he'
          go_wp2_with fail
          refine (dot_of gz 0 cz j gz 0 cz (wordsOf z) (wordsOf z) (by omega) _ (by exact FZ7.out) (by exact FZ7.out)).mono ?_
          rintro e w8 ⟨rf, mf, rfl, hf', rfl⟩
          obtain rfl : rf = K single Q := num_of hf' eD.out (K_num (by omega))
          clear hf'
          go_wp2_with fail
          refine (impl_DotWide gz 0 cz gz 0 cz j (wordsOf z) (wordsOf z) (by omega) _ (by exact FZ7.out) (by exact FZ7.out)).mono ?_
          rintro e w8 ⟨u, rg, mg, rfl, hg', hn', rfl⟩
          obtain rfl : rg = K single Q := wide_of hg' eW.out (by omega) hn'
          clear hg' hn'
          go_wp2_with fail
          go_loopw [32, 33, 34] (fun x y i wr => ∃ k M : Nat, k ≤ j ∧ i = .int .i64 k ∧ x = .int .i64 (zsum z 0 k) ∧ y = .int .i64 (zsum (fun i => z i * z i) 0 k) ∧ wr = w7.drewN M) (fun _ _ i _ => j - (RowKit.intOf i).toNat)
          case atStart => exact ⟨0, _, Nat.zero_le _, rfl, rfl, rfl, rfl⟩
          case round =>
            obtain ⟨k, M, hk, rfl, rfl, rfl, rfl⟩ := hrel
            have x1 := zsum_bound Z.out 0 k
            have x2 := zsum_bound (sq_bound Z.out) 0 k
            by_cases hlt : k < j
            · have c0 : w7.cell? ⟨gz, k, none⟩ = some (.float .f32 (K single (z k))) := by have h := FZ7.out k hlt; rw [Nat.zero_add] at h; exact h
              have zk := Z.out k
              have zk2 : (z k * z k).natAbs ≤ 10000 := sq_bound Z.out k
              have hc := fun v => conv_int zk v
              have U1 := Lib.hid (show zsum z 0 (k + 1) = zsum z 0 k + z k by rw [zsum_succ, Nat.zero_add])
              have U2 := Lib.hid (show zsum (fun i => z i * z i) 0 (k + 1) = zsum (fun i => z i * z i) 0 k + z k * z k by rw [zsum_succ, Nat.zero_add])
              generalize hX : zsum z 0 k = X at *
              generalize hY : zsum (fun i => z i * z i) 0 k = Y at *
              generalize hZ : z k = zz at *
              generalize hZZ : zz * zz = z2 at *
              clear hX hY hZ
              go_wp2_with fail
              go_region
              all_goals
                go_wp2_with fail
                go_roundw
                case rel => exact ⟨k + 1, _, by omega, by go_num, by rw [U1.out], by rw [U2.out], rfl⟩
                case measure => simp [RowKit.intOf]; omega
            · obtain rfl : k = j := by omega
              rw [← ES.out, ← EQ.out]
              have fS := ofInt32 S
              have fQ := ofInt32 Q
              go_wp2_with fail
              go_ret
              exact ⟨rfl, below_drewN B8.out _⟩

theorem own : ownKnob Try.prog.godebug = none := by kernel_rfl
theorem laidOut : laidOutB Try.prog = true := by kernel_rfl
set_option maxRecDepth 100000 in
theorem lifted (os : Os) (started : os.Started) (H : Type) (enc : TypeId × Value → H) :
    ReturnsInHanded {} Try.checked os 9 .any (Rows.fnSumsSpec.pre6 enc Try.prog Try.f9 Rows.fnSumsRow.domain false) (Rows.fnSumsSpec.post enc Try.prog Try.f9 false true false false) := by
  refine returnsInHanded_of_change (C := Try.checked) own started (by kernel_rfl) Try.func9
    (ChangeSpec.witness6 (enc := enc) (C := Try.checked) false ⟨#[], #[.slice none 0 0, .slice none 0 0], []⟩ 8 (by kernel_rfl) (by kernel_rfl) (by kernel_rfl) (by kernel_rfl)) ?_
  intro W base args ds gs before hval0 hW hcnd _
  have hval : ∀ (j : Nat) t v, Try.f9.params[j]? = some t → args[j]? = some v → Value.okWide Try.prog W .any base t v := hval0
  have hW' := hW
  obtain ⟨p, q, hA0, hV, rfl, hfz, hnd⟩ := hW
  have hA : DataW.TrodAll enc Try.prog W 0 (fun _ => true) true Try.f9.params.toList args.toList ds p := hA0
  rw [Try.params9] at hA hval
  obtain ⟨v0, vs0, d0, ds0, p0, q0, hargs, rfl, rfl, h0, r0⟩ := trodAll_cons hA
  obtain ⟨v1, vs1, d1, ds1, p1, q1, rfl, rfl, rfl, h1, r1⟩ := trodAll_cons r0
  obtain ⟨rfl, rfl, rfl⟩ := trodAll_nil r1
  obtain rfl : args = #[v0, v1] := by cases args; simp_all
  obtain ⟨rfl, rfl⟩ := trodVars_none hV
  have k0 := h0
  have lt0 : ∀ x ∈ p0, x.block < W.heap.size := by obtain ⟨m, hm⟩ := k0; exact DataW.trod_lt m _ _ _ hm
  obtain ⟨a0, rfl, w0⟩ := opened_B (hval 0 34 v0 rfl rfl) h0
  have k1 := h1
  have lt1 : ∀ x ∈ p1, x.block < W.heap.size := by obtain ⟨m, hm⟩ := k1; exact DataW.trod_lt m _ _ _ hm
  obtain ⟨a1, rfl, w1⟩ := opened_B (hval 1 34 v1 rfl rfl) h1
  clear hA0 hval0
  refine (walk W a0 w0 a1 w1).mono fun e W' ⟨he, bel⟩ => ?_
  subst he
  exact ⟨_, rfl, _, _, _, [], _, [], hW', trodAll_mk1 (shut_bool Try.underlying4 _), (trodAll_cons_mk (Below.trod laidOut (by kernel_rfl) (of_decide_eq_true (by kernel_rfl)) k0 bel lt0) (trodAll_cons_mk (Below.trod laidOut (by kernel_rfl) (of_decide_eq_true (by kernel_rfl)) k1 bel lt1) trodAll_mk0)), rfl, bel.frame _, fun h => by cases h⟩

theorem over : Rows.fnSumsRow.holds Try.pinned (OpenSpec.ofChange Rows.fnSumsSpec) :=
  OpenClaim.holds_of_wide 9 Try.f9 rfl rfl rfl rfl rfl rfl rfl ⟨rfl, rfl, rfl, rfl, rfl⟩ rfl rfl rfl rfl rfl (by kernel_rfl) Try.func9 (by kernel_rfl)
    (of_decide_eq_true (by kernel_rfl)) (by unfold Func.isWrapper; first | (rw [if_pos (by decide +kernel)]; kernel_rfl) | (rw [if_neg (by decide +kernel)]; exact ⟨rfl, rfl⟩))
    (fun os started H enc _ => lifted os started H enc)

/-- The given statement. -/
theorem proved : Rows.FnSumsSaid := over
end Go.Proofs.Ytcmmafkmfahijaa.fnSums
