/- The walks of Go's slices at bytes: Clone, Reverse, Grow (of nothing), Concat. -/
import Derived.Test.YtjcgdenkmmgmfaaGreatDoorBase
namespace Go.Proofs.YtjcgdenkmmgmfaaGreatDoor
open Go.RowKit
set_option linter.unusedVariables false
set_option linter.unusedSimpArgs false

theorem grown_tr {a b c : World} {row : Option Nat} (h : a.grownBy b row) (k : b.grownBy c row) : a.grownBy c row :=
  ⟨k.os.trans h.os, k.tape.trans h.tape, k.output.trans h.output, Nat.le_trans h.size k.size, fun i hi hn => (k.block i (Nat.lt_of_lt_of_le hi h.size) hn).trans (h.block i hi hn)⟩
theorem grown_drew (w : World) (row : Option Nat) : w.grownBy w.drew row := ⟨rfl, rfl, rfl, Nat.le_refl _, fun _ _ _ => rfl⟩
theorem own_nil_len {w : World} {base : Nat} {e : TypeId} {n : Nat} {xs : List Value} {a : Option Addr} {c : Nat} (h : w.ownsRow base e 1 (.slice a n c) n xs) (ha : a = none) : n = 0 := by
  obtain ⟨h1, h2⟩ := h
  rcases h2 with ⟨e1, e2⟩ | ⟨g, cap, cur, hv, _⟩
  · exact e2
  · subst ha; simp at hv
end Go.Proofs.YtjcgdenkmmgmfaaGreatDoor
