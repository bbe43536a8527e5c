/- Rows: a result in a cell next to one in a slot; a store into the block made last; a row stored over itself. -/
import Derived.Test.YtabfmhlhdebcpaaGreatDoorPlan2
namespace Go.Proofs.YtabfmhlhdebcpaaGreatDoor
open Go.RowKit
set_option linter.unusedVariables false
set_option linter.unusedSimpArgs false
/-- A result in a cell (a row) and one in a slot. -/
theorem results_row_tmp {P : Program} {fn : Func} {p u : Tmp} {ty : TypeId} (h : fn.results = #[.cell p ty, .tmp u]) (tmps : Array Value) (w : World) (g : Nat) (t : TypeId) (cs : Array Value) (fr : Nat × Nat) (d : TypeDesc)
    (hp : tmps.getD p undef = .pointer (some ⟨g, 0, none⟩)) (hg : w.heap[g]? = some (.cells cs t fr))
    (hu : P.underlying ty = some d) (hd : (match d with | .struct _ | .array _ _ => true | _ => false) = true) (hi : (P.info? ty).map (·.size) = some cs.size) :
    (results fn tmps).run P w = .ok (.tuple #[.agg cs, tmps.getD u undef]) w := by
  have hp' : tmps[p]?.getD undef = .pointer (some ⟨g, 0, none⟩) := by simpa using hp
  simp [results, h, hp', asAddr, run_loadVar_row w g t ty cs fr d hg hu hd hi]
theorem wpList_store_new {P : Program} {ops : Array Oper} {rest : List Oper} {o : Oper} {a : Act} {W : World} {Q : Exit → Act → World → Prop} (hgd : o.guard = none) (ty : TypeId) (x y : Operand) (ho : o.op = .store ty x y)
    (cells : Array Value) (t : TypeId) (old : Array Value) (hx : a.eval x = .pointer (some ⟨W.heap.size, 0, none⟩)) (hy : a.eval y = .agg cells)
    (hi : (P.info? ty).map (·.size) = some cells.size) (hold : old.size = cells.size) (h1 : cells.all (·.oneCell') = true)
    (h : ∀ w', w'.heap[W.heap.size]? = some (.cells cells t (0, 0)) → Below W.heap.size W w' → wpList P ops Q rest (a.put o.dst undef) w') : wpList P ops Q (o :: rest) a (W.alloc (.cells old t)) :=
  wpList_store_row hgd ty x y ho W.heap.size cells hx hy t old (heap_alloc_new _ _) hi hold h1 (h _ (setRow_heap _ _ _ _ _ _ (heap_alloc_new _ _)) (below_setRow (gr_alloc _ _) (Nat.le_refl _) _))
theorem blk_below {w w' : World} {k : Nat} {o : Obj} (h : w.heap[k]? = some o) (hb : Below w.heap.size w w') : w'.heap[k]? = some o :=
  (hb.block k (Array.getElem?_eq_some_iff.1 h).1).trans h
theorem str_at {w : World} {v : Value} {l : List (BitVec 8)} (h : BytesV w v l) : (convert 42 9 v).run Tryz.prog w = .ok (.string (strOf l)) w := run_string h
theorem BytesV.keepT {w : World} {v : Value} {l : List (BitVec 8)} (h : BytesV w v l) (y : KeepT nowhere w) : BytesV y.val v l := by
  obtain ⟨a, c, e, h0, h1, h2, h3⟩ := h
  refine ⟨a, c, e, h0, h1, h2, ?_⟩
  rcases h3 with h | ⟨b, o, rfl, h⟩
  · exact .inl h
  · refine .inr ⟨b, o, rfl, fun i hi => ?_⟩
    rw [List.getElem?_eq_getElem hi]
    exact y.cell ((h i hi).trans (List.getElem?_eq_getElem hi)) id
/-- The cells of bytes whose address is known. -/
theorem BytesV.cellAt {w : World} {g o n c : Nat} {l : List (BitVec 8)} (h : BytesV w (.slice (some ⟨g, o, none⟩) n c) l) {i : Nat} {x : BitVec 8} (hi : l[i]? = some x) : w.cell? ⟨g, o + i, none⟩ = some (.int .u8 (uv x)) := by
  obtain ⟨a, c', e, -, -, -, hr⟩ := h
  obtain ⟨b, o', e', hc⟩ := hr.at (i := i) (v := .int .u8 (uv x)) (by rw [by8_get, hi]; rfl)
  subst e'
  injection e with e1
  injection e1 with e1
  injection e1 with e1 e2
  subst e1 e2
  exact hc
theorem BytesV.shapeAt {w : World} {v : Value} {l : List (BitVec 8)} (h : BytesV w v l) (hl : 0 < l.length) : ∃ g o c, v = .slice (some ⟨g, o, none⟩) l.length c := by
  obtain ⟨a, c, rfl, -, -, -, hr⟩ := h
  obtain ⟨b, o, e, -⟩ := hr.at (i := 0) (v := .int .u8 (uv l[0])) (by rw [by8_get, List.getElem?_eq_getElem hl]; rfl)
  subst e
  exact ⟨b, o, c, rfl⟩
end Go.Proofs.YtabfmhlhdebcpaaGreatDoor
