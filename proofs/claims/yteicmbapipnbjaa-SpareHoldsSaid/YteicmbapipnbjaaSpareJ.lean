/- Descriptions of pages: what stands in the memory while spare.Decode runs. -/
import Derived.Test.YteicmbapipnbjaaSpareI
namespace Go.Proofs.Yteicmbapipnbjaa
open Go.RowKit
set_option linter.unusedVariables false
set_option linter.unusedSimpArgs false
structure DecAt (w W : World) (R p : Nat) (cs : Array Value) (l : List (BitVec 8)) (m : Nat) : Prop where
  s : W.heap[w.heap.size]? = some (.cells cs 25 (0, 0))
  e : W.heap[w.heap.size + 1]? = some (.cells #[.int .i64 0] 28 (0, 0))
  r : W.heap[R]? = some (.cells #[.pointer (some ⟨p, 0, none⟩)] 56 (0, 0))
  rd : ∃ v, RdAt W 88 p p v l m
  ne : p ≠ R
  lop : w.heap.size + 2 ≤ p
  lor : w.heap.size + 2 ≤ R
  base : Below w.heap.size w W
section
variable {w W W' : World} {R p m m' : Nat} {cs : Array Value} {l l' : List (BitVec 8)}
theorem DecAt.below (h : DecAt w W R p cs l m) (c : Below W.heap.size W W') : DecAt w W' R p cs l m := by
  obtain ⟨v, hv⟩ := h.rd
  exact ⟨(c.block _ (blk_lt h.s)).trans h.s, (c.block _ (blk_lt h.e)).trans h.e, (c.block _ (blk_lt h.r)).trans h.r, ⟨v, hv.below c⟩, h.ne, h.lop, h.lor, gr_tr h.base c⟩
theorem DecAt.chg (h : DecAt w W R p cs l m) (c : Chg (fun b => b = p) W W') (hr : ∃ v, RdAt W' 88 p p v l' m') : DecAt w W' R p cs l' m' := by
  have h1 := h.lop
  exact ⟨c.blk h.s (by omega), c.blk h.e (by omega), c.blk h.r (fun e => h.ne e.symm), hr, h.ne, h.lop, h.lor, Chg.new c h.base (fun k hk => by omega)⟩
theorem bytes_off {S : Nat} {T : TypeId} {u : Value} (hu : BytesV W u l) (hS : W.heap[S]? = some (.cells cs T (0, 0))) (hc : cs.size ≤ 6) (h7 : 7 ≤ l.length) : Off (fun b => b = S) u := by
  intro g o n c e hg
  subst hg
  obtain ⟨a, c', e1, _, _, _, hr⟩ := hu
  rw [e] at e1
  cases e1
  rcases hr with h | ⟨b, o', e2, h⟩
  · have h0 : (by8 l).length = 0 := by rw [h]; rfl
    rw [by8_length] at h0; omega
  · cases e2
    have h6 := h 6 (by simp; omega)
    rw [cell_of_row _ _ _ _ _ _ hS, Array.getElem?_eq_none (by omega), List.getElem?_eq_getElem (by simp; omega)] at h6
    cases h6
theorem DecAt.set (h : DecAt w W R p cs l m) (hc : cs.size ≤ 6) (h7 : 7 ≤ l.length) (j : Nat) (v : Value) : DecAt w (W.setCell ⟨w.heap.size, j, none⟩ v) R p (cs.setIfInBounds j v) l m := by
  have h1 := h.lop
  have h2 := h.lor
  have c : Chg (fun b => b = w.heap.size) W (W.setCell ⟨w.heap.size, j, none⟩ v) := Chg.setCell (B := fun b => b = w.heap.size) W rfl v
  obtain ⟨u, hu⟩ := h.rd
  have hlt := hu.lt
  refine ⟨heap_setCell_same _ _ _ _ _ _ h.s, c.blk h.e (by omega), c.blk h.r (by omega), ⟨u, ⟨c.blk hu.blk (by omega), hu.bytes.chg c (bytes_off hu.bytes h.s hc h7), hu.small, hu.old, hu.le⟩⟩, h.ne, h.lop, h.lor, Chg.new c h.base (fun k hk => by omega)⟩
theorem DecAt.cells {c0 c1 c2 c3 c4 c5 : Value} (h : DecAt w W R p #[c0, c1, c2, c3, c4, c5] l m) :
    W.cell? ⟨w.heap.size, 0, none⟩ = some c0 ∧ W.cell? ⟨w.heap.size, 1, none⟩ = some c1 ∧ W.cell? ⟨w.heap.size, 2, none⟩ = some c2 ∧ W.cell? ⟨w.heap.size, 3, none⟩ = some c3 ∧ W.cell? ⟨w.heap.size, 4, none⟩ = some c4 ∧ W.cell? ⟨w.heap.size, 5, none⟩ = some c5 := row6 h.s
theorem DecAt.cold (h : DecAt w W R p cs l m) (j : Nat) : W.frozen? ⟨w.heap.size, j, none⟩ = false := by simp [World.frozen?, h.s]
theorem DecAt.rcell (h : DecAt w W R p cs l m) : W.cell? ⟨R, 0, none⟩ = some (.pointer (some ⟨p, 0, none⟩)) := (cell_of_row _ _ 0 _ _ _ h.r).trans rfl
theorem DecAt.ecell (h : DecAt w W R p cs l m) : W.cell? ⟨w.heap.size + 1, 0, none⟩ = some (.int .i64 0) ∧ W.frozen? ⟨w.heap.size + 1, 0, none⟩ = false := ⟨(cell_of_row _ _ 0 _ _ _ h.e).trans rfl, by simp [World.frozen?, h.e]⟩
end
end Go.Proofs.Yteicmbapipnbjaa
