/- The table of ASCII spaces, off the row's condition. -/
import Derived.Test.YthnnopjakpjoeaaDoorLogE
import Derived.LaidSub
import Derived.MakeChecks
namespace Go.Proofs.YthnnopjakpjoeaaDoor
open Go.RowKit
set_option linter.unusedVariables false
theorem tab_of_laid {w : World} {l : List (String × DataW Unit)} (h : laidMetH Tryd.prog l w) (hl : l.filter (fun x => x.1 == "strings.asciiSpace") = [("strings.asciiSpace", Lib.tabData .u8 Lib.asciiSpaceTab)]) : Lib.TabIs Tryd.prog w "strings.asciiSpace" .u8 Lib.asciiSpaceTab := by
  have h2 := h.filter (fun x => x.1 == "strings.asciiSpace")
  rw [hl, MakeChecks.laidMetH_plain _ _ _ (by kernel_rfl)] at h2
  exact Lib.tabIs_of_head (g := 0) (t := 263) (e := 5) (n := 256) (by kernel_rfl) (by kernel_rfl) Tryd.underlying263 Tryd.underlying5 (by kernel_rfl) (by kernel_rfl) h2
end Go.Proofs.YthnnopjakpjoeaaDoor
