/- What the worlds of this seat's calls bear: the table of powers of ten. No conditions. -/
import Derived.Test.YthlghckgnanlpaaGreatDoorRows
import Derived.Lib.LaidTab
import Derived.Lib.LaidU8
import Derived.Lib.AppendIntMem
import Derived.Lib.ItoaNum
import Derived.LaidMore
import Derived.LaidLaws
namespace Go.Proofs.YthlghckgnanlpaaGreatDoor.Ax
open Go Go.RowKit
/-- What is known of the package-level variables. -/
def WX (w : World) : Prop := Lib.TabIs Tryz.prog w "internal/strconv.uint64pow10" .u64 Lib.pow10Tab
theorem tab_eq : (Rows.laid_internal_strconv_uint64pow10 : DataW Unit) = Lib.tabData .u64 Lib.pow10Tab := by kernel_rfl
theorem WX_laid {W : World} {l : List (String × DataW Unit)} (h : laidMet Tryz.prog l W) (hm : ("internal/strconv.uint64pow10", Rows.laid_internal_strconv_uint64pow10) ∈ l) : WX W := by
  obtain ⟨g, t, cs, fuel, p, hg, ht, hv, hd⟩ := Lib.laidMet.reads h hm
  obtain rfl := Option.some.inj ((show Tryz.prog.globalNamed "internal/strconv.uint64pow10" = some 1 by kernel_rfl).symm.trans hg)
  obtain rfl := Option.some.inj ((show (Tryz.prog.globals[1]?).map (·.type) = some 342 by kernel_rfl).symm.trans ht)
  rw [tab_eq] at hd
  have := Lib.cells_of_tab (e := 216) (n := 20) (k := .u64) Tryz.underlying342 Tryz.underlying216 (by kernel_rfl) (by kernel_rfl) hd
  unfold WX Lib.TabIs
  rw [hv, ← this]
theorem WX_below {W : World} (h : WX W) : ∀ w', Below W.heap.size W w' → WX w' := Lib.tabBelow_of_tabIs h
end Go.Proofs.YthlghckgnanlpaaGreatDoor.Ax
