/- How a law's list of wires is opened. Conditions: none. -/
import Derived.Test.YtfcniebfoboogaaList3
namespace Go.Proofs.Ytfcniebfoboogaa
open Go.RowKit Go.ChangeShapes Go.WideShapes Go.Joins Go.Deep

/-- A law's list of vectors, by its one cell. -/
theorem pts_of {H : Type} {enc : TypeId × Value → H} {W : World} {base m : Nat} {spare : Nat → Bool} {held : Bool} {v0 : Value} {y : DataW H × List MemPlace}
    (h0 : DataW.trod enc Try.prog W base spare held m 22 [v0] = some y) : ∃ a n c P, v0 = .slice a n c ∧ n ≤ 9223372036854775807 ∧ PtsA W a n P := by
  rcases open_slice Try.underlying22 h0 with ⟨hcs, _⟩ | ⟨a, len, cap, m2, n2, D, Pl, hcs, _, hl, hmx, hm2, _, hel⟩
  · simp only [List.cons.injEq, and_true] at hcs
    subst hcs
    exact ⟨_, _, _, fun _ => 0, rfl, by omega, .inl rfl⟩
  · simp only [List.cons.injEq, and_true] at hcs
    subst hcs
    by_cases hz : len = 0
    · subst hz; exact ⟨_, _, _, fun _ => 0, rfl, by omega, .inl rfl⟩
    · have ce : Try.prog.cellsOf 56 = 3 := by kernel_rfl
      have cf : Try.prog.cellsOf 23 = 1 := by kernel_rfl
      have hlm : len ≤ m2 := by rw [hm2]; split <;> omega
      have each : ∀ i, i < len → ∃ x y z, W.cell? (a.add (i * 3)) = some (.float .f32 x) ∧ W.cell? (a.add (i * 3 + 1)) = some (.float .f32 y) ∧ W.cell? (a.add (i * 3 + 2)) = some (.float .f32 z) := fun i hi => by
        obtain ⟨cs', g1, g2⟩ := hel i (by omega)
        rw [ce] at g1
        obtain ⟨_, hlen, hcell⟩ := World.cells?_some g1
        obtain ⟨x0, x1, x2, k, _, _, f0, f1, f2⟩ := trod_struct3 Try.underlying56 g2
        obtain ⟨c0, c1, c2, rfl⟩ := list3 hlen
        · have f0' : DataW.trod enc Try.prog W base spare held k 23 [c0] = some x0 := by simpa [cf] using f0
          have f1' : DataW.trod enc Try.prog W base spare held k 23 [c1] = some x1 := by simpa [cf] using f1
          have f2' : DataW.trod enc Try.prog W base spare held k 23 [c2] = some x2 := by simpa [cf] using f2
          obtain ⟨x, q0, _, _⟩ := trod_float Try.underlying23 f0'
          obtain ⟨y, q1, _, _⟩ := trod_float Try.underlying23 f1'
          obtain ⟨z, q2, _, _⟩ := trod_float Try.underlying23 f2'
          simp only [List.cons.injEq, and_true] at q0 q1 q2
          subst q0 q1 q2
          have e0 := hcell 0 (by omega)
          have e1 := hcell 1 (by omega)
          have e2 := hcell 2 (by omega)
          rw [add_add] at e0 e1 e2
          exact ⟨x, y, z, by simpa using e0, by simpa using e1, by simpa using e2⟩
      have one : ∀ j, j < len * 3 → ∃ x, W.cell? (a.add j) = some (.float .f32 x) := fun j hj => by
        obtain ⟨x, y, z, g0, g1, g2⟩ := each (j / 3) (by omega)
        have hj3 : j = j / 3 * 3 ∨ j = j / 3 * 3 + 1 ∨ j = j / 3 * 3 + 2 := by omega
        rcases hj3 with e | e | e
        · exact ⟨x, by rw [e]; exact g0⟩
        · exact ⟨y, by rw [e]; exact g1⟩
        · exact ⟨z, by rw [e]; exact g2⟩
      obtain ⟨b, off, spot⟩ := a
      obtain ⟨x0, hx0⟩ := one 0 (by omega)
      have hspot : spot = none := by simpa [Addr.add] using World.cell?_spot hx0
      subst hspot
      have hL : ∃ L : Nat → Nat, ∀ i, i < len * 3 → W.cell? ⟨b, off + i, none⟩ = some (.float .f32 (L i)) := by
        refine ⟨fun i => if h : i < len * 3 then (one i h).choose else 0, fun i hi => ?_⟩
        simp only [dif_pos hi]
        rw [← add_plain]
        exact (one i hi).choose_spec
      obtain ⟨L, hL⟩ := hL
      refine ⟨_, _, _, L, rfl, by unfold maxLen at hmx; omega, .inr ⟨b, off, rfl, hL, ?_⟩⟩
      have := World.block_lt_of_cell? W _ (hL 0 (by omega)); exact this
theorem opened_L {H : Type} {enc : TypeId × Value → H} {W : World} {b0 base : Nat} {spare : Nat → Bool} {held : Bool} {v : Value} {d : DataW H} {p : List MemPlace}
    (hv : Value.okWide Try.prog W .any b0 41 v) (h : DataW.Trod enc Try.prog W base spare held 41 v d p) : ∃ a, a = v ∧ Is_L a W := by
  refine ⟨v, rfl, ?_⟩
  obtain ⟨a0, len0, cap0, rfl⟩ := okWide_slice Try.underlying41 hv
  obtain ⟨m, hm⟩ := h
  have z : ∀ i, (((fun _ => ⟨none, 0, 0, 0, false, fun _ => 0⟩ : Nat → WD)) i).n ≤ 9223372036854775807 := fun _ => by show 0 ≤ _; omega
  rcases open_slice Try.underlying41 hm with ⟨hcs, _⟩ | ⟨a, len, cap, m2, n2, D, Pl, hcs, _, hl, hmx, hm2, _, hel⟩
  · simp [Value.cells] at hcs
    obtain ⟨rfl, rfl, rfl⟩ := hcs
    exact ⟨_, _, _, _, rfl, by omega, .inl rfl, z⟩
  · simp [Value.cells] at hcs
    obtain ⟨rfl, rfl, rfl⟩ := hcs
    by_cases h0 : len0 = 0
    · subst h0; exact ⟨_, _, _, _, rfl, by omega, .inl rfl, z⟩
    · have ce : Try.prog.cellsOf 25 = 3 := by kernel_rfl
      have cs1 : Try.prog.cellsOf 22 = 1 := by kernel_rfl
      have cb : Try.prog.cellsOf 4 = 1 := by kernel_rfl
      have cf : Try.prog.cellsOf 23 = 1 := by kernel_rfl
      have hlm : len0 ≤ m2 := by rw [hm2]; split <;> omega
      have each : ∀ i, i < len0 → ∃ d : WD, W.cell? (a.add (i * 3)) = some (.slice d.a d.n d.c) ∧ W.cell? (a.add (i * 3 + 1)) = some (.bool d.cl) ∧ W.cell? (a.add (i * 3 + 2)) = some (.float .f32 d.cu) ∧ PtsA W d.a d.n d.P ∧ d.n ≤ 9223372036854775807 := fun i hi => by
        obtain ⟨cs', g1, g2⟩ := hel i (by omega)
        rw [ce] at g1
        obtain ⟨_, hlen, hcell⟩ := World.cells?_some g1
        obtain ⟨x0, x1, x2, k, _, _, f0, f1, f2⟩ := trod_struct3 Try.underlying25 g2
        obtain ⟨c0, c1, c2, rfl⟩ := list3 hlen
        · have f0' : DataW.trod enc Try.prog W base spare held k 22 [c0] = some x0 := by simpa [cs1] using f0
          have f1' : DataW.trod enc Try.prog W base spare held k 4 [c1] = some x1 := by simpa [cb] using f1
          have f2' : DataW.trod enc Try.prog W base spare held k 23 [c2] = some x2 := by simpa [cf] using f2
          obtain ⟨a, n, c, P, rfl, hn, hp⟩ := pts_of f0'
          obtain ⟨cl, q1, _⟩ := DataW.trod_bool Try.underlying4 f1'
          obtain ⟨cu, q2, _, _⟩ := trod_float Try.underlying23 f2'
          simp only [List.cons.injEq, and_true] at q1 q2
          subst q1 q2
          have e0 := hcell 0 (by omega)
          have e1 := hcell 1 (by omega)
          have e2 := hcell 2 (by omega)
          rw [add_add] at e0 e1 e2
          exact ⟨⟨a, n, c, cu, cl, P⟩, by simpa using e0, by simpa using e1, by simpa using e2, hp, hn⟩
      obtain ⟨b, off, spot⟩ := a
      obtain ⟨x0, hx0, _⟩ := each 0 (by omega)
      have hspot : spot = none := by simpa [Addr.add] using World.cell?_spot hx0
      subst hspot
      have each2 : ∀ i, i < len0 → ∃ d : WD, WCells W b (off + i * 3) d ∧ PtsA W d.a d.n d.P ∧ d.n ≤ 9223372036854775807 := fun i hi => by
        obtain ⟨d, q0, q1, q2, q3, q4⟩ := each i hi
        rw [add_plain] at q0 q1 q2
        exact ⟨d, ⟨q0, by rw [Nat.add_assoc]; exact q1, by rw [Nat.add_assoc]; exact q2⟩, q3, q4⟩
      have hL : ∃ L : Nat → WD, (∀ i, i < len0 → WCells W b (off + i * 3) (L i) ∧ PtsA W (L i).a (L i).n (L i).P) ∧ ∀ i, (L i).n ≤ 9223372036854775807 := by
        refine ⟨fun i => if h : i < len0 then (each2 i h).choose else ⟨none, 0, 0, 0, false, fun _ => 0⟩, fun i hi => ?_, fun i => ?_⟩
        · simp only [dif_pos hi]
          have q := (each2 i hi).choose_spec
          exact ⟨q.1, q.2.1⟩
        · by_cases hi : i < len0
          · simp only [dif_pos hi]; exact (each2 i hi).choose_spec.2.2
          · simp only [dif_neg hi]; omega
      obtain ⟨L, hL, hn⟩ := hL
      exact ⟨_, _, _, L, rfl, by unfold maxLen at hmx; omega, .inr ⟨b, off, rfl, hL⟩, hn⟩
end Go.Proofs.Ytfcniebfoboogaa
