/- Structs read in the middle of a row, in planned regions. Printed by gendsci.py. -/
import Derived.Test.YtabfmhlhdebcpaaGreatDoorPlan2
import Derived.Deep.MidRow
namespace Go.Proofs.YtabfmhlhdebcpaaGreatDoor
open Go.RowKit
set_option linter.unusedVariables false
set_option linter.unusedSimpArgs false
theorem KeepT.block_lt {w : World} {k : Nat} {o : Obj} (h : w.heap[k]? = some o) : k < w.heap.size := (Array.getElem?_eq_some_iff.1 h).1
theorem Keep.rng {B : Nat → Prop} {w x : World} {g o : Nat} {cs : List Value} (h : Keep B w x) (hr : w.rangeAt g o cs) (hn : ¬ B g) : x.rangeAt g o cs := by
  obtain ⟨y, rfl⟩ := h
  exact fun j v hj => y.cell (hr j v hj) hn
theorem Keep.blkB {B : Nat → Prop} {w x : World} {g : Nat} {o : Obj} (h : Keep B w x) (hg : w.heap[g]? = some o) (hn : ¬ B g) : x.heap[g]? = some o := by
  obtain ⟨y, rfl⟩ := h
  exact (y.block g (KeepT.block_lt hg) hn).trans hg
theorem wpS_load_mid {P : Program} {ops : Array Oper} {Q : Exit → Act → World → Prop} {S : World → Prop} {a : Act} {w : World} {i : Nat} {r : List (Bool × Nat)} {o : Oper} (ho : ops[i]? = some o) (hw : Region.wanted o (yielded ops a.tmps) = true) (ty : TypeId) (x : Operand) (hop : o.op = .load ty x)
    (g off : Nat) (hx : a.eval x = .pointer (some ⟨g, off, none⟩)) (cs : List Value) (d : TypeDesc) (hg : ∀ x, S x → x.rangeAt g off cs)
    (hu : P.underlying ty = some d) (hd : d.isRow = true) (hi : (P.info? ty).map (·.size) = some cs.length)
    (h : wpS P ops Q S r (a.put o.dst (.agg cs.toArray)) w) : wpS P ops Q S ((true, i) :: r) a w := by
  refine ⟨o, ho, ?_⟩
  rw [if_pos hw]
  refine ⟨.agg cs.toArray, fun x hS => ?_, h⟩
  unfold execOp
  simp only [hop, hx, run_loadAt_mid x g off ty cs d (hg x hS) hu hd hi, Sem.run_bind, Sem.run_pure, Result.andThen_ok]
theorem wpT_load_mid {P : Program} {ops : Array Oper} {Q : Exit → Act → World → Prop} {S : World → Prop} {a : Act} {w : World} {i : Nat} {r : PlanT} {o : Oper} (ho : ops[i]? = some o) (hw : Region.wanted o (yielded ops a.tmps) = true) (ty : TypeId) (x : Operand) (hop : o.op = .load ty x)
    (g off : Nat) (hx : a.eval x = .pointer (some ⟨g, off, none⟩)) (cs : List Value) (d : TypeDesc) (hg : ∀ x, S x → x.rangeAt g off cs)
    (hu : P.underlying ty = some d) (hd : d.isRow = true) (hi : (P.info? ty).map (·.size) = some cs.length)
    (h : wpT P ops Q S r (a.put o.dst (.agg cs.toArray)) w) : wpT P ops Q S (.firm i r) a w := by
  refine ⟨o, ho, ?_⟩
  rw [if_pos hw]
  refine ⟨.agg cs.toArray, fun x hS => ?_, h⟩
  unfold execOp
  simp only [hop, hx, run_loadAt_mid x g off ty cs d (hg x hS) hu hd hi, Sem.run_bind, Sem.run_pure, Result.andThen_ok]
theorem wpT_load_row {P : Program} {ops : Array Oper} {Q : Exit → Act → World → Prop} {S : World → Prop} {a : Act} {w : World} {i : Nat} {r : PlanT} {o : Oper} (ho : ops[i]? = some o) (hw : Region.wanted o (yielded ops a.tmps) = true) (ty : TypeId) (x : Operand) (hop : o.op = .load ty x)
    (g : Nat) (hx : a.eval x = .pointer (some ⟨g, 0, none⟩)) (t : TypeId) (cs : Array Value) (fr : Nat × Nat) (d : TypeDesc) (hg : ∀ x, S x → x.heap[g]? = some (.cells cs t fr))
    (hu : P.underlying ty = some d) (hd : (match d with | .struct _ | .array _ _ => true | _ => false) = true) (hi : (P.info? ty).map (·.size) = some cs.size)
    (h : wpT P ops Q S r (a.put o.dst (.agg cs)) w) : wpT P ops Q S (.firm i r) a w := by
  refine ⟨o, ho, ?_⟩
  rw [if_pos hw]
  refine ⟨.agg cs, fun x hS => ?_, h⟩
  unfold execOp
  simp only [hop, hx, Instr.loadAt, Instr.sureAddr, Sem.run_bind, Sem.run_pure, Result.andThen_ok, run_loadVar_row x g t ty cs fr d (hg x hS) hu hd hi]
theorem wpS_load_rowM {P : Program} {ops : Array Oper} {Q : Exit → Act → World → Prop} {S : World → Prop} {a : Act} {w : World} {i : Nat} {r : List (Bool × Nat)} {o : Oper} (ho : ops[i]? = some o) (hw : Region.wanted o (yielded ops a.tmps) = true) (ty : TypeId) (x : Operand) (hop : o.op = .load ty x)
    (g : Nat) (hx : a.eval x = .pointer (some ⟨g, 0, none⟩)) (t : TypeId) (cs : Array Value) (fr : Nat × Nat) (d : TypeDesc) (hg : ∀ x, S x → x.heap[g]? = some (.cells cs t fr))
    (hu : P.underlying ty = some d) (hd : (match d with | .struct _ | .array _ _ => true | _ => false) = true) (hi : (P.info? ty).map (·.size) = some cs.size)
    (h : wpS P ops Q S r (a.put o.dst (.agg cs)) w) : wpS P ops Q S ((true, i) :: r) a w := by
  refine ⟨o, ho, ?_⟩
  rw [if_pos hw]
  refine ⟨.agg cs, fun x hS => ?_, h⟩
  unfold execOp
  simp only [hop, hx, Instr.loadAt, Instr.sureAddr, Sem.run_bind, Sem.run_pure, Result.andThen_ok, run_loadVar_row x g t ty cs fr d (hg x hS) hu hd hi]
end Go.Proofs.YtabfmhlhdebcpaaGreatDoor
