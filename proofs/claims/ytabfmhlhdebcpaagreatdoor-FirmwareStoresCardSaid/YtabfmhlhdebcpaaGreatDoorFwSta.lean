/- Firmware: two slices of ints side by side (for Stores). -/
import Derived.Test.YtabfmhlhdebcpaaGreatDoorFwStm
namespace Go.Proofs.YtabfmhlhdebcpaaGreatDoor
open Go.RowKit Go.Shelf Fw
set_option linter.unusedVariables false
set_option linter.unusedSimpArgs false
set_option linter.unusedVariables false
set_option linter.unusedSimpArgs false
theorem intsOk : ElemOk Tryz.prog 53 3 (.int .i64 0) 1 8 :=
  ⟨Tryz.underlying53, info_parts (by kernel_rfl), rfl, by decide⟩
def ints (l : List Int) : List Value := l.map (Value.int .i64)
theorem ints_one (l : List Int) : ∀ u ∈ ints l, u.oneCell' = true := by
  intro u hu
  obtain ⟨x, _, rfl⟩ := List.mem_map.1 hu
  rfl
theorem int_row {w : World} {g : Nat} {y : Int} (h : w.heap[g]? = some (.cells #[.int .i64 y] 3 (0, 0))) : Row w (some ⟨g, 0, none⟩) [.int .i64 y] := by
  refine .inr ⟨g, 0, rfl, fun i hi => ?_⟩
  rw [cell_of_row _ _ _ _ _ _ h]; simp
theorem app_int {ops : Array Oper} {rest : List Oper} {o : Oper} {a : Act} {Q : Exit → Act → World → Prop} {W : World} (hgd : o.guard = none) (s x : Operand) (ho : o.op = .call { callee := .builtin .append, args := #[s, x], argTypes := #[53, 53] })
    (u : Value) (base n : Nat) (ks : List Int) (hs : a.eval s = u) (hown : W.ownsRow base 3 1 u n (ints ks)) (hbase : base ≤ W.heap.size)
    (g : Nat) (y : Int) (hx : a.eval x = .slice (some ⟨g, 0, none⟩) 1 1) (hg : W.heap[g]? = some (.cells #[.int .i64 y] 3 (0, 0))) (hl : n ≤ 1000000000)
    (h : ∀ v' w', w'.ownsRow base 3 1 v' (n + 1) (ints (ks ++ [y])) → W.grownBy w' u.ownBlock → (v'.ownBlock = u.ownBlock ∨ v'.ownBlock = some W.heap.size) → wpList Tryz.prog ops Q rest (a.put o.dst v') w') : wpList Tryz.prog ops Q (o :: rest) a W := by
  refine app_law_at intsOk hgd s x ho base u n (ints ks) hs hown (some ⟨g, 0, none⟩) 1 1 [.int .i64 y] hx some_none (Nat.le_refl _) (int_row hg) rfl (ints_one [y]) (by omega) (by omega) hbase ?_
  intro v' w' h1 h2 h3
  exact h v' w' (by unfold ints at h1 ⊢; rw [List.map_append]; exact h1) h2 h3
theorem some_noneI {g : Addr} : (some g : Option Addr) = none → (1 : Nat) = 0 := fun h => by cases h
def sI (R : List (Nat × Nat)) : List Int := R.map (fun p => (p.1 : Int))
def eI (R : List (Nat × Nat)) : List Int := R.map (fun p => (p.2 : Int))
theorem sI_len (R : List (Nat × Nat)) : (sI R).length = R.length := by simp [sI]
theorem eI_len (R : List (Nat × Nat)) : (eI R).length = R.length := by simp [eI]
theorem ints_len (l : List Int) : (ints l).length = l.length := by simp [ints]
/-- Where the remaining cuts begin and end. -/
structure Two (w : World) (base : Nat) (v1 v2 : Value) (R : List (Nat × Nat)) : Prop where
  s : w.ownsRow base 3 1 v1 R.length (ints (sI R))
  e : w.ownsRow base 3 1 v2 R.length (ints (eI R))
  ap : ∀ k, v1.ownBlock = some k → ¬ v2.ownBlock = some k
section
variable {w w1 w2 : World} {base n : Nat} {v1 v2 v1' v2' : Value} {R : List (Nat × Nat)}
theorem Two.nil (w : World) (base : Nat) : Two w base (.slice none 0 0) (.slice none 0 0) [] := ⟨World.ownsRow_nil _ _ _ _, World.ownsRow_nil _ _ _ _, fun k h => by cases h⟩
theorem Two.below (h : Two w base v1 v2 R) (hb : Below w.heap.size w w1) : Two w1 base v1 v2 R := ⟨own_below h.s hb, own_below h.e hb, h.ap⟩
theorem Two.set {q : Nat} {cs : Array Value} {t : TypeId} {fr : Nat × Nat} (h : Two w base v1 v2 R) (hq : w.heap[q]? = some (.cells cs t fr)) (ht : t ≠ 3) (hc : Chg (fun k => k = q) w w1) : Two w1 base v1 v2 R :=
  ⟨own_chg h.s hc (fun k hk e => by have e' : k = q := e; subst e'; exact own_apartB2 h.s hq ht hk), own_chg h.e hc (fun k hk e => by have e' : k = q := e; subst e'; exact own_apartB2 h.e hq ht hk), h.ap⟩
/-- The second row behind an append onto the first. -/
theorem Two.e1 (h : Two w base v1 v2 R) {o o2 : Obj} (hg : (w.alloc o).grownBy w1 v1.ownBlock) : (w1.alloc o2).ownsRow base 3 1 v2 R.length (ints (eI R)) :=
  own_below (own_chg (own_below h.e (gr_alloc w o)) (Chg.of_grown (B := fun b => v1.ownBlock = some b) hg (fun k hk => hk)) (fun g hg2 hg1 => h.ap g hg1 hg2)) (gr_alloc w1 o2)
theorem Two.push (h : Two w base v1 v2 R) {o o2 : Obj} {s e : Nat} (hg : (w.alloc o).grownBy w1 v1.ownBlock) (h1 : w1.ownsRow base 3 1 v1' (R.length + 1) (ints (sI R ++ [(s : Int)]))) (d1 : v1'.ownBlock = v1.ownBlock ∨ v1'.ownBlock = some (w.alloc o).heap.size)
    (hg2 : (w1.alloc o2).grownBy w2 v2.ownBlock) (h2 : w2.ownsRow base 3 1 v2' (R.length + 1) (ints (eI R ++ [(e : Int)]))) (d2 : v2'.ownBlock = v2.ownBlock ∨ v2'.ownBlock = some (w1.alloc o2).heap.size) : Two w2 base v1' v2' (R ++ [(s, e)]) := by
  have ap2 : ∀ k, v1'.ownBlock = some k → ¬ v2.ownBlock = some k := fun k hk hk2 => by
    rcases d1 with d | d
    · rw [d] at hk; exact h.ap k hk hk2
    · rw [d] at hk; cases hk
      have := (h.e.lt _ hk2).2
      have := (gr_alloc w o).size
      omega
  refine ⟨?_, ?_, fun k hk hk2 => ?_⟩
  · have h3 := own_chg (own_below h1 (gr_alloc w1 o2)) (Chg.of_grown (B := fun b => v2.ownBlock = some b) hg2 (fun k hk => hk)) ap2
    rw [List.length_append]
    show w2.ownsRow base 3 1 v1' (R.length + 1) (ints (sI (R ++ [(s, e)])))
    unfold sI
    rw [List.map_append]
    exact h3
  · rw [List.length_append]
    show w2.ownsRow base 3 1 v2' (R.length + 1) (ints (eI (R ++ [(s, e)])))
    unfold eI
    rw [List.map_append]
    exact h2
  · rcases d2 with d | d
    · rw [d] at hk2; exact ap2 k hk hk2
    · rw [d] at hk2; cases hk2
      have := (h1.lt _ hk).2
      have := (gr_alloc w1 o2).size
      omega
theorem Two.bel (h : Two w base v1 v2 R) {o o2 : Obj} (hb : base ≤ w.heap.size) (hg : (w.alloc o).grownBy w1 v1.ownBlock) (hg2 : (w1.alloc o2).grownBy w2 v2.ownBlock) : Below base w w2 := by
  have a1 : Below base w (w.alloc o) := (gr_alloc w o).mono hb
  have a2 : Below base w w1 := a1.grown hg (by have := (gr_alloc w o).size; omega) (fun j hj => (h.s.lt j hj).1)
  have a3 : Below base w (w1.alloc o2) := a2.trans ((gr_alloc w1 o2).mono (Nat.le_trans hb a2.size))
  exact a3.grown hg2 (by have := (gr_alloc w1 o2).size; have := a2.size; omega) (fun j hj => (h.e.lt j hj).1)
/-- One cut taken out: both rows built anew. -/
theorem Two.cutAt {W1 w7 w8 w9 w10 : World} {v3 v4 v5 v6 : Value} {k m : Nat} {S1 S2 E1 E2 : List Value} {R' : List (Nat × Nat)} (hm : R'.length = k + m) (hS : S1 ++ S2 = ints (sI R')) (hE : E1 ++ E2 = ints (eI R'))
    (g3 : W1.grownBy w7 none) (d3 : v3.ownBlock = none ∨ v3.ownBlock = some W1.heap.size)
    (h4 : w8.ownsRow base 3 1 v4 (k + m) (S1 ++ S2)) (g4 : w7.grownBy w8 v3.ownBlock) (d4 : v4.ownBlock = v3.ownBlock ∨ v4.ownBlock = some w7.heap.size)
    (g5 : w8.grownBy w9 none) (d5 : v5.ownBlock = none ∨ v5.ownBlock = some w8.heap.size)
    (h6 : w10.ownsRow base 3 1 v6 (k + m) (E1 ++ E2)) (g6 : w9.grownBy w10 v5.ownBlock) (d6 : v6.ownBlock = v5.ownBlock ∨ v6.ownBlock = some w9.heap.size) :
    Two w10 base v4 v6 R' ∧ Below W1.heap.size W1 w10 := by
  have z7 := g3.size; have z8 := g4.size; have z9 := g5.size; have z10 := g6.size
  have k5 : ∀ j, v5.ownBlock = some j → j = w8.heap.size := fun j hj => by
    rcases d5 with d | d
    · rw [d] at hj; cases hj
    · rw [d] at hj; cases hj; rfl
  have k3 : ∀ j, v3.ownBlock = some j → j = W1.heap.size := fun j hj => by
    rcases d3 with d | d
    · rw [d] at hj; cases hj
    · rw [d] at hj; cases hj; rfl
  refine ⟨⟨?_, by rw [hm, ← hE]; exact h6, fun j hj hj6 => ?_⟩, ?_⟩
  · rw [hm, ← hS]
    have h9 := own_chg h4 (Chg.of_grown (B := fun _ => False) g5 (fun k hk => by cases hk)) (fun g _ hf => hf)
    exact own_chg h9 (Chg.of_grown (B := fun b => v5.ownBlock = some b) g6 (fun k hk => hk)) (fun g hg hg5 => by
      have := (h4.lt g hg).2; have := k5 g hg5; omega)
  · have h1 := (h4.lt j hj).2
    rcases d6 with d | d
    · rw [d] at hj6; have := k5 j hj6; omega
    · rw [d] at hj6; cases hj6; omega
  · have a1 : Below W1.heap.size W1 w7 := (Below.refl W1.heap.size W1).grown g3 (Nat.le_refl _) (fun j hj => by cases hj)
    have a2 : Below W1.heap.size W1 w8 := a1.grown g4 z7 (fun j hj => by have := k3 j hj; omega)
    have a3 : Below W1.heap.size W1 w9 := a2.grown g5 (by omega) (fun j hj => by cases hj)
    exact a3.grown g6 (by omega) (fun j hj => by have := k5 j hj; omega)
theorem ints_at (l : List Int) (k : Nat) (x : Int) (h : l[k]? = some x) : (ints l)[k]? = some (.int .i64 x) := by unfold ints; rw [List.getElem?_map, h]; rfl
theorem Two.cellS {a : Option Addr} {n c : Nat} {k s e : Nat} (h : Two w base (.slice a n c) v2 R) (hk : R[k]? = some (s, e)) : ∃ g, a = some ⟨g, 0, none⟩ ∧ w.cell? ⟨g, k, none⟩ = some (.int .i64 (s : Int)) := by
  have hlt := (List.getElem?_eq_some_iff.1 hk).1
  obtain ⟨g, rfl⟩ := own_someB h.s (by omega)
  refine ⟨g, rfl, ?_⟩
  have hn : n = R.length := by obtain ⟨x, y, hy⟩ := own_shape h.s; injection hy
  subst hn
  rw [World.ownsRow.cellAt h.s k (by omega)]
  exact ints_at _ _ _ (by unfold sI; rw [List.getElem?_map, hk]; rfl)
theorem Two.cellE {a : Option Addr} {n c : Nat} {k s e : Nat} (h : Two w base v1 (.slice a n c) R) (hk : R[k]? = some (s, e)) : ∃ g, a = some ⟨g, 0, none⟩ ∧ w.cell? ⟨g, k, none⟩ = some (.int .i64 (e : Int)) := by
  have hlt := (List.getElem?_eq_some_iff.1 hk).1
  obtain ⟨g, rfl⟩ := own_someB h.e (by omega)
  refine ⟨g, rfl, ?_⟩
  have hn : n = R.length := by obtain ⟨x, y, hy⟩ := own_shape h.e; injection hy
  subst hn
  rw [World.ownsRow.cellAt h.e k (by omega)]
  exact ints_at _ _ _ (by unfold eI; rw [List.getElem?_map, hk]; rfl)
/-- The tail of a row of ints behind a place, as a slice of it is told. -/
theorem tail_row {g n c k : Nat} {xs : List Value} (h : Row w (some ⟨g, 0, none⟩) xs) (hx : xs.length = n) (hc : n ≤ c) : Row w (if c = k then some ⟨g, 0, none⟩ else some ⟨g, k, none⟩) (xs.drop k) := by
  split
  · rw [List.drop_of_length_le (by omega)]; exact Row.nil _ _
  · have := h.drop k
    rw [Nat.zero_add] at this
    exact this
end
end Go.Proofs.YtabfmhlhdebcpaaGreatDoor
