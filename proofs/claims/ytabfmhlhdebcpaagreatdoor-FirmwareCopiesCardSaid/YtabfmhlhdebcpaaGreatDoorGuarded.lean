/- A guarded operation of a region in the order of the text, whose guard holds, as one without a guard. -/
import Derived.Test.YtabfmhlhdebcpaaGreatDoorPlan
namespace Go.Proofs.YtabfmhlhdebcpaaGreatDoor
open Go.RowKit
theorem wpList_unguard {P : Program} {ops : Array Oper} {rest : List Oper} {o : Oper} {a : Act} {w : World} {Q : Exit → Act → World → Prop} (hw : Region.wanted o (yielded ops a.tmps) = true)
    (h : wpList P ops Q ({ o with guard := none } :: rest) a w) : wpList P ops Q (o :: rest) a w := by
  unfold wpList at *
  rw [if_pos (show Region.wanted { o with guard := none } (yielded ops a.tmps) = true from rfl)] at h
  rw [if_pos hw]
  exact h
end Go.Proofs.YtabfmhlhdebcpaaGreatDoor
