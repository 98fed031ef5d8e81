/- The listed variables of these rows: what they give the walks, and a start at which they hold what they are laid as. Conditions: none. -/
import Derived.Test.YtepjhfigkfpheaaDoorRd
import Derived.Test.YtepjhfigkfpheaaDoorRows
import Derived.Test.YtepjhfigkfpheaaDoorTie
import Derived.Test.YtepjhfigkfpheaaDoorCards
import Derived.ProofKit
import Derived.LaidMore
import Derived.Stop.Joined
import Derived.Stop.LaidErr
import Derived.Lib.SmallJoins
import Derived.SevenTiedAt
namespace Go.Proofs.YtepjhfigkfpheaaDoor
open Go.ChangeShapes Go.WideShapes Go.ChangeAt Go.RowKit Go.Lib

theorem own : ownKnob Tryd.prog.godebug = none := by kernel_rfl
theorem i64_range {a : Int} (h : (Lit.int .i64 a).wf = true) : -9223372036854775808 ≤ a ∧ a ≤ 9223372036854775807 := by
  simp only [Lit.wf, Bool.and_eq_true, decide_eq_true_eq] at h
  exact h
theorem belowNext {W w1 w2 : World} (h : Below W.heap.size W w1) (hb : Below w1.heap.size w1 w2) : Below W.heap.size W w2 := h.trans (hb.mono h.size)
/-- One listed variable's reading. -/
def Reads (w : World) (n : String) (d : DataW Unit) : Prop :=
  ∃ g t cs fuel p, Tryd.prog.globalNamed n = some g ∧ (Tryd.prog.globals[g]?).map (·.type) = some t ∧ w.var? Tryd.prog n = some cs ∧ DataW.trod (fun _ => ()) Tryd.prog w 0 (fun _ => true) false fuel t cs.toList = some (d, p)
theorem laid_reads {w : World} : ∀ {l : List (String × DataW Unit)} {ps : List MemPlace}, DataW.LaidVars Tryd.prog w l ps → ∀ n d, (n, d) ∈ l → Reads w n d
  | [], _, _, _, _, hm => by cases hm
  | (n', d') :: r, ps, h, n, d, hm => by
    obtain ⟨g, t, cs, fuel, p, q, h1, h2, h3, h4, h5, _⟩ := h
    rcases List.mem_cons.1 hm with e | e
    · cases e
      exact ⟨g, t, cs, fuel, p, h1, h2, h3, h4⟩
    · exact laid_reads h5 n d e
theorem met_reads {w : World} {l : List (String × DataW Unit)} (h : laidMet Tryd.prog l w) {n : String} {d : DataW Unit} (hm : (n, d) ∈ l) : Reads w n d :=
  let ⟨_, hv, _⟩ := h
  laid_reads hv n d hm
theorem tens_of_reads {w : World} (h : Reads w "internal/strconv.uint64pow10" Rows.laid_internal_strconv_uint64pow10) : Tens w := by
  obtain ⟨g, t, cs, fuel, p, hg, ht, hv, hd⟩ := h
  obtain rfl := Option.some.inj ((show Tryd.prog.globalNamed "internal/strconv.uint64pow10" = some 2 by kernel_rfl).symm.trans hg)
  obtain rfl := Option.some.inj ((show (Tryd.prog.globals[2]?).map (·.type) = some 83 by kernel_rfl).symm.trans ht)
  have := cells_of_tab (zs := pow10Tab) Tryd.underlying83 Tryd.underlying59 (by kernel_rfl) (by kernel_rfl) hd
  unfold Tens TabIs
  rw [hv, ← this]
/-- The start. -/
noncomputable def laidW (os : Os) : World := World.doorLaid Tryd.prog 72 os
theorem start_met (os : Os) (args : Array Value) : laidMet Tryd.prog Rows.fnExactReadDecimalRow.laid ((laidW os).forCall (fun _ _ => 0) ⟨#[], args, []⟩).memory :=
  laidMet_of_run' 8 (by kernel_rfl) (by kernel_rfl)
theorem start_met3 (os : Os) (args : Array Value) : laidMet Tryd.prog Rows.fnExactDecimalRow.laid ((laidW os).forCall (fun _ _ => 0) ⟨#[], args, []⟩).memory :=
  laidMet_of_run' 8 (by kernel_rfl) (by kernel_rfl)
theorem fnExactDecimal_met (os : Os) (args : Array Value) : laidMetH Tryd.prog Rows.fnExactDecimalRow.laid ((laidW os).forCall (fun _ _ => 0) ⟨#[], args, []⟩).memory := by
  rw [MakeChecks.laidMetH_plain _ _ _ (by kernel_rfl)]; exact start_met3 os args
theorem fnExactListText_met (os : Os) (args : Array Value) : laidMetH Tryd.prog Rows.fnExactListTextRow.laid ((laidW os).forCall (fun _ _ => 0) ⟨#[], args, []⟩).memory := by
  rw [MakeChecks.laidMetH_plain _ _ _ (by kernel_rfl)]; exact start_met3 os args
theorem fnExactReadDecimal_met (os : Os) (args : Array Value) : laidMetH Tryd.prog Rows.fnExactReadDecimalRow.laid ((laidW os).forCall (fun _ _ => 0) ⟨#[], args, []⟩).memory := by
  rw [MakeChecks.laidMetH_plain _ _ _ (by kernel_rfl)]; exact start_met os args
theorem fnExactDecimal_laid {w : World} (h : laidMetH Tryd.prog Rows.fnExactDecimalRow.laid w) : Tens w := by
  rw [MakeChecks.laidMetH_plain _ _ _ (by kernel_rfl)] at h
  exact tens_of_reads (met_reads h (List.mem_cons_of_mem _ (List.mem_cons_of_mem _ (List.mem_cons_self ..))))
theorem fnExactListText_laid {w : World} (h : laidMetH Tryd.prog Rows.fnExactListTextRow.laid w) : Tens w := by
  rw [MakeChecks.laidMetH_plain _ _ _ (by kernel_rfl)] at h
  exact tens_of_reads (met_reads h (List.mem_cons_of_mem _ (List.mem_cons_of_mem _ (List.mem_cons_self ..))))
theorem starW : "*" ++ "errors.errorString" = "*errors.errorString" := by decide
theorem rowW (u : TypeId) (h : Tryd.prog.typeName? 3 u = some "*errors.errorString") : u = 91 :=
  typeName_ptr_named (nm := "errors.errorString") (by rw [starW]; kernel_rfl) (by kernel_rfl) (by decide) u (by rw [starW]; exact h)
theorem range_of {w : World} {r : List (String × DataW Unit)} (h : laidMet Tryd.prog (("strconv.ErrRange", Rows.laid_strconv_ErrRange) :: r) w) : ∃ tp p, w.var? Tryd.prog "strconv.ErrRange" = some #[.iface tp p] := by
  obtain ⟨a, s, h1, _⟩ := laid_sentinel (g := 1) (ti := 40) (te := 93) (ts := 9) h (by kernel_rfl) (by kernel_rfl) Tryd.underlying40 rowW (by kernel_rfl) Tryd.underlying93 rfl rfl Tryd.underlying9 (by kernel_rfl) (by kernel_rfl)
  exact ⟨_, _, h1⟩
theorem syntax_of {w : World} {r : List (String × DataW Unit)} (h : laidMet Tryd.prog (("strconv.ErrSyntax", Rows.laid_strconv_ErrSyntax) :: r) w) : ∃ tp p, w.var? Tryd.prog "strconv.ErrSyntax" = some #[.iface tp p] := by
  obtain ⟨a, s, h1, _⟩ := laid_sentinel (g := 0) (ti := 40) (te := 93) (ts := 9) h (by kernel_rfl) (by kernel_rfl) Tryd.underlying40 rowW (by kernel_rfl) Tryd.underlying93 rfl rfl Tryd.underlying9 (by kernel_rfl) (by kernel_rfl)
  exact ⟨_, _, h1⟩
theorem fnExactReadDecimal_laid {w : World} (h : laidMetH Tryd.prog Rows.fnExactReadDecimalRow.laid w) : Tens w ∧ Errs w := by
  rw [MakeChecks.laidMetH_plain _ _ _ (by kernel_rfl)] at h
  refine ⟨tens_of_reads (met_reads h (List.mem_cons_of_mem _ (List.mem_cons_of_mem _ (List.mem_cons_self ..)))), ?_⟩
  have h3 := laidMet.tail (laidMet.tail (laidMet.tail h))
  exact ⟨syntax_of (laidMet.tail h3), range_of h3⟩
end Go.Proofs.YtepjhfigkfpheaaDoor
