/- What the worlds of this seat's calls bear: the table of powers of ten, and two errors that are values of an interface. No conditions. -/
import Derived.Test.YtdinloamhmdgjaaGreatDoorRows
import Derived.Lib.LaidTab
import Derived.Lib.LaidU8
import Derived.Lib.AppendIntMem
import Derived.Lib.ItoaNum
import Derived.LaidMore
import Derived.LaidLaws
import Derived.Stop.LaidErr
namespace Go.Proofs.YtdinloamhmdgjaaGreatDoor.Ax
open Go Go.RowKit Go.ChangeShapes
def WX (w : World) : Prop := Lib.TabIs Tryz.prog w "internal/strconv.uint64pow10" .u64 Lib.pow10Tab ∧ (∃ tp p, w.var? Tryz.prog "strconv.ErrSyntax" = some #[.iface tp p]) ∧ ∃ tp p, w.var? Tryz.prog "strconv.ErrRange" = some #[.iface tp p]
theorem WX_tab {w : World} (h : WX w) : Lib.TabIs Tryz.prog w "internal/strconv.uint64pow10" .u64 Lib.pow10Tab := h.1
theorem tab_eq : (Rows.laid_internal_strconv_uint64pow10 : DataW Unit) = Lib.tabData .u64 Lib.pow10Tab := by kernel_rfl
theorem Yal : "*" ++ "errors.errorString" = "*errors.errorString" := by decide
theorem row_es (u : TypeId) (h : Tryz.prog.typeName? 3 u = some "*errors.errorString") : u = 308 :=
  typeName_ptr_named (nm := "errors.errorString") (by rw [Yal]; kernel_rfl) (by kernel_rfl) (by decide) u (by rw [Yal]; exact h)
theorem WX_laid {W : World} {l1 l2 l3 : List (String × DataW Unit)} (h1 : laidMet Tryz.prog (("internal/strconv.uint64pow10", Rows.laid_internal_strconv_uint64pow10) :: l1) W) (h2 : laidMet Tryz.prog (("strconv.ErrSyntax", Rows.laid_strconv_ErrSyntax) :: l2) W) (h3 : laidMet Tryz.prog (("strconv.ErrRange", Rows.laid_strconv_ErrRange) :: l3) W) : WX W := by
  refine ⟨?_, ?_, ?_⟩
  · obtain ⟨g, t, cs, fuel, p, hg, ht, hv, hd⟩ := Lib.laidMet.reads h1 (.head _)
    obtain rfl := Option.some.inj ((show Tryz.prog.globalNamed "internal/strconv.uint64pow10" = some 3 by kernel_rfl).symm.trans hg)
    obtain rfl := Option.some.inj ((show (Tryz.prog.globals[3]?).map (·.type) = some 285 by kernel_rfl).symm.trans ht)
    rw [tab_eq] at hd
    have := Lib.cells_of_tab (e := 161) (n := 20) (k := .u64) Tryz.underlying285 Tryz.underlying161 (by kernel_rfl) (by kernel_rfl) hd
    unfold Lib.TabIs
    rw [hv, ← this]
  · obtain ⟨a, s, hv, _⟩ := laid_sentinel (g := 1) (ti := 105) (tp := 308) (te := 310) (ts := 9) h2 (by kernel_rfl) (by kernel_rfl) Tryz.underlying105 row_es Tryz.underlying308 Tryz.underlying310 rfl rfl Tryz.underlying9 (by kernel_rfl) (by kernel_rfl)
    exact ⟨_, _, hv⟩
  · obtain ⟨a, s, hv, _⟩ := laid_sentinel (g := 2) (ti := 105) (tp := 308) (te := 310) (ts := 9) h3 (by kernel_rfl) (by kernel_rfl) Tryz.underlying105 row_es Tryz.underlying308 Tryz.underlying310 rfl rfl Tryz.underlying9 (by kernel_rfl) (by kernel_rfl)
    exact ⟨_, _, hv⟩
theorem Zsj {P : Program} {W w' : World} (h : Below W.heap.size W w') {n : String} {cs : Array Value} (hv : W.var? P n = some cs) : w'.var? P n = some cs := by
  unfold World.var? at *
  cases hg : P.globalNamed n with
  | none => rw [hg] at hv; cases hv
  | some g =>
    rw [hg] at hv
    simp only [Option.bind_some] at hv ⊢
    have hlt : g < W.heap.size := by
      apply Classical.byContradiction
      intro q
      rw [Array.getElem?_eq_none (by omega)] at hv
      cases hv
    rw [h.block g hlt]
    exact hv
theorem Zvi {W : World} (h : WX W) : ∀ w', Below W.heap.size W w' → WX w' := fun w' hb =>
  ⟨Lib.tabBelow_of_tabIs h.1 w' hb, h.2.1.imp fun _ q => q.imp fun _ q => Zsj hb q, h.2.2.imp fun _ q => q.imp fun _ q => Zsj hb q⟩
end Go.Proofs.YtdinloamhmdgjaaGreatDoor.Ax
