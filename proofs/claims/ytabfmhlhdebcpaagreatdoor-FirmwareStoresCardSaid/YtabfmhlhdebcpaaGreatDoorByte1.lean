/- Appending one byte to a slice that the call owns. -/
import Derived.Test.YtabfmhlhdebcpaaGreatDoorRows2
namespace Go.Proofs.YtabfmhlhdebcpaaGreatDoor
open Go.RowKit
set_option linter.unusedVariables false
set_option linter.unusedSimpArgs false
theorem BytesV.one (W : World) (y : BitVec 8) (t : TypeId) : BytesV (W.alloc (.cells #[.int .u8 (uv y)] t)) (.slice (some ⟨W.heap.size, 0, none⟩) 1 1) [y] := by
  exact ⟨_, _, rfl, (fun h => by cases h), Nat.le_refl _, by simp, Row.lit W #[.int .u8 (uv y)] t (0, 0)⟩
/-- 'append(own, x)' for one byte, behind the array of the one element. -/
theorem app_one {ops : Array Oper} {rest : List Oper} {o : Oper} {a : Act} {Q : Exit → Act → World → Prop} {W : World} (hgd : o.guard = none) (s x : Operand) (ho : o.op = .call { callee := .builtin .append, args := #[s, x], argTypes := #[42, 42] })
    (u : Value) (base n : Nat) (k : List (BitVec 8)) (hs : a.eval s = u) (hown : W.ownsRow base 5 1 u n (by8 k)) (hbase : base ≤ W.heap.size) (y : BitVec 8) (hx : a.eval x = .slice (some ⟨W.heap.size, 0, none⟩) 1 1) (hl : n + 1 ≤ 140737488355328)
    (h : ∀ v' w', w'.ownsRow base 5 1 v' (n + 1) (by8 (k ++ [y])) → Below base W w' → wpList Tryz.prog ops Q rest (a.put o.dst v') w') : wpList Tryz.prog ops Q (o :: rest) a (W.alloc (.cells #[.int .u8 (uv y)] 5)) := by
  have hb : Below base W (W.alloc (.cells #[.int .u8 (uv y)] 5)) := (Below.refl base W).alloc hbase _
  refine app_more hgd s x ho u base n k hs (own_below hown (gr_alloc _ _)) (Nat.le_trans hbase hb.size) _ [y] hx (BytesV.one W y _) hl ?_
  intro v' w' ho' _ hb'
  exact h v' w' ho' (hb.trans hb')
end Go.Proofs.YtabfmhlhdebcpaaGreatDoor
