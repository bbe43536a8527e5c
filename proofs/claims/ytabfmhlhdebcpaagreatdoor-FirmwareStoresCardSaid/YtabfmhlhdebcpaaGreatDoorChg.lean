/- What a call may change: some blocks that are named, and what is new. -/
import Derived.Test.YtabfmhlhdebcpaaGreatDoorApp
namespace Go.Proofs.YtabfmhlhdebcpaaGreatDoor
open Go.RowKit
set_option linter.unusedVariables false
set_option linter.unusedSimpArgs false

structure Chg (B : Nat → Prop) (w w' : World) : Prop where
  os : w'.os = w.os
  tape : w'.tape = w.tape
  output : w'.output = w.output
  size : w.heap.size ≤ w'.heap.size
  block : ∀ k, k < w.heap.size → ¬ B k → w'.heap[k]? = w.heap[k]?
section
variable {B C : Nat → Prop} {w a b c : World}
theorem Chg.refl (B : Nat → Prop) (w : World) : Chg B w w := ⟨rfl, rfl, rfl, Nat.le_refl _, fun _ _ _ => rfl⟩
theorem Chg.trans (h : Chg B a b) (k : Chg B b c) : Chg B a c :=
  ⟨k.os.trans h.os, k.tape.trans h.tape, k.output.trans h.output, Nat.le_trans h.size k.size, fun i hi hn => (k.block i (Nat.lt_of_lt_of_le hi h.size) hn).trans (h.block i hi hn)⟩
theorem Chg.mono (h : Chg B a b) (hBC : ∀ k, B k → C k) : Chg C a b := ⟨h.os, h.tape, h.output, h.size, fun k hk hn => h.block k hk fun hb => hn (hBC k hb)⟩
/-- Only what lay there already counts. -/
theorem Chg.old (h : Chg B a b) (hBC : ∀ k, k < a.heap.size → B k → C k) : Chg C a b := ⟨h.os, h.tape, h.output, h.size, fun k hk hn => h.block k hk fun hb => hn (hBC k hk hb)⟩
theorem Chg.of_below (h : Below a.heap.size a b) : Chg B a b := ⟨h.os, h.tape, h.output, h.size, fun k hk _ => h.block k hk⟩
theorem Chg.of_grown {row : Option Nat} (h : a.grownBy b row) (hr : ∀ k, row = some k → B k) : Chg B a b :=
  ⟨h.os, h.tape, h.output, h.size, fun k hk hn => h.block k hk fun e => hn (hr k e.symm)⟩
theorem Chg.setRow (w : World) {g : Nat} (hg : B g) (cs : Array Value) : Chg B w (w.setRow g cs) :=
  ⟨rfl, rfl, rfl, by simp [World.setRow], fun k _ hn => setRow_other w g k cs (fun e => hn (by rw [e]; exact hg))⟩
theorem Chg.setCell (w : World) {p : Addr} (hg : B p.block) (v : Value) : Chg B w (w.setCell p v) :=
  ⟨rfl, rfl, rfl, by simp [World.setCell], fun k _ hn => Below.heap_setCell w p v k (fun e => hn (by rw [e]; exact hg))⟩
theorem Chg.below {base : Nat} (h : Chg B a b) (hB : ∀ k, B k → base ≤ k) (hs : base ≤ a.heap.size) : Below base a b :=
  ⟨h.os, h.tape, h.output, h.size, fun k hk => h.block k (Nat.lt_of_lt_of_le hk hs) fun hb => by have := hB k hb; omega⟩
theorem Chg.blk {k : Nat} {o : Obj} (h : Chg B a b) (hk : a.heap[k]? = some o) (hn : ¬ B k) : b.heap[k]? = some o := by
  have hlt : k < a.heap.size := by
    rcases Nat.lt_or_ge k a.heap.size with h | h
    · exact h
    · rw [Array.getElem?_eq_none h] at hk; exact absurd hk (by simp)
  exact (h.block k hlt hn).trans hk
theorem Chg.cell {p o : Nat} {v : Value} (h : Chg B a b) (hc : a.cell? ⟨p, o, none⟩ = some v) (hn : ¬ B p) : b.cell? ⟨p, o, none⟩ = some v := by
  rw [World.cell?_of_block (w := a) (h.block p (block_lt_of_cell hc) hn)]; exact hc
/-- The block that a slice lies in is none of these. -/
def Off (B : Nat → Prop) (v : Value) : Prop := ∀ g o n c, v = .slice (some ⟨g, o, none⟩) n c → ¬ B g
theorem BytesV.chg {v : Value} {l : List (BitVec 8)} (h : BytesV a v l) (k : Chg B a b) (hn : Off B v) : BytesV b v l := by
  obtain ⟨ad, c, rfl, h0, h1, h2, h3⟩ := h
  refine ⟨ad, c, rfl, h0, h1, h2, ?_⟩
  rcases h3 with h | ⟨g, o, rfl, h⟩
  · exact .inl h
  · refine .inr ⟨g, o, rfl, fun i hi => ?_⟩
    rw [List.getElem?_eq_getElem hi]
    exact k.cell ((h i hi).trans (List.getElem?_eq_getElem hi)) (hn g o _ _ rfl)
theorem own_chg {base : Nat} {e : TypeId} {size : Nat} {v : Value} {n : Nat} {xs : List Value} (h : a.ownsRow base e size v n xs) (k : Chg B a b) (hn : ∀ g, v.ownBlock = some g → ¬ B g) : b.ownsRow base e size v n xs := by
  obtain ⟨h1, h2⟩ := h
  rcases h2 with h2 | ⟨g, cap, cur, rfl, hb, hh, rest⟩
  · exact ⟨h1, .inl h2⟩
  · exact ⟨h1, .inr ⟨g, cap, cur, rfl, hb, k.blk hh (hn g rfl), rest⟩⟩
/-- A bound may be given up. -/
theorem own_base {base base' : Nat} {e : TypeId} {size : Nat} {v : Value} {n : Nat} {xs : List Value} (h : a.ownsRow base e size v n xs) (hb : base' ≤ base) : a.ownsRow base' e size v n xs := by
  obtain ⟨h1, h2⟩ := h
  rcases h2 with h2 | ⟨g, cap, cur, rfl, hg, rest⟩
  · exact ⟨h1, .inl h2⟩
  · exact ⟨h1, .inr ⟨g, cap, cur, rfl, Nat.le_trans hb hg, rest⟩⟩
end
end Go.Proofs.YtabfmhlhdebcpaaGreatDoor
