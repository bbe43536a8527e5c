/- Appends onto a slice of ints and a slice of words that lie apart. -/
import Derived.Test.YteicmbapipnbjaaDoorWireM
import Derived.Test.YteicmbapipnbjaaDoorWireF
import Derived.Test.YteicmbapipnbjaaDoorPlan2
namespace Go.Proofs.YteicmbapipnbjaaDoor
open Go.RowKit
set_option linter.unusedVariables false
set_option linter.unusedSimpArgs false
theorem intsOk : ElemOk Tryd.prog 53 3 (.int .i64 0) 1 8 :=
  ⟨Tryd.underlying53, info_parts (by kernel_rfl), rfl, by decide⟩
def ints (l : List Int) : List Value := l.map (Value.int .i64)
theorem ints_one (l : List Int) : ∀ u ∈ ints l, u.oneCell' = true := by
  intro u hu
  obtain ⟨x, _, rfl⟩ := List.mem_map.1 hu
  rfl
theorem int_row {w : World} {g : Nat} {y : Int} (h : w.heap[g]? = some (.cells #[.int .i64 y] 3 (0, 0))) : Row w (some ⟨g, 0, none⟩) [.int .i64 y] := by
  refine .inr ⟨g, 0, rfl, fun i hi => ?_⟩
  rw [cell_of_row _ _ _ _ _ _ h]; simp
theorem app_int {ops : Array Oper} {rest : List Oper} {o : Oper} {a : Act} {Q : Exit → Act → World → Prop} {W : World} (hgd : o.guard = none) (s x : Operand) (ho : o.op = .call { callee := .builtin .append, args := #[s, x], argTypes := #[53, 53] })
    (u : Value) (base n : Nat) (ks : List Int) (hs : a.eval s = u) (hown : W.ownsRow base 3 1 u n (ints ks)) (hbase : base ≤ W.heap.size)
    (g : Nat) (y : Int) (hx : a.eval x = .slice (some ⟨g, 0, none⟩) 1 1) (hg : W.heap[g]? = some (.cells #[.int .i64 y] 3 (0, 0))) (hl : n ≤ 1000000000)
    (h : ∀ v' w', w'.ownsRow base 3 1 v' (n + 1) (ints (ks ++ [y])) → W.grownBy w' u.ownBlock → (v'.ownBlock = u.ownBlock ∨ v'.ownBlock = some W.heap.size) → wpList Tryd.prog ops Q rest (a.put o.dst v') w') : wpList Tryd.prog ops Q (o :: rest) a W := by
  refine app_law_at intsOk hgd s x ho base u n (ints ks) hs hown (some ⟨g, 0, none⟩) 1 1 [.int .i64 y] hx some_none (Nat.le_refl _) (int_row hg) rfl (ints_one [y]) (by omega) (by omega) hbase ?_
  intro v' w' h1 h2 h3
  exact h v' w' (by unfold ints at h1 ⊢; rw [List.map_append]; exact h1) h2 h3
theorem own_apart {w : World} {base n m : Nat} {e f : TypeId} {v u : Value} {xs ys : List Value} (h : w.ownsRow base e 1 v n xs) (k : w.ownsRow base f 1 u m ys) (hT : e ≠ f) : ∀ g, v.ownBlock = some g → ¬ u.ownBlock = some g := by
  intro g hg hgr
  obtain ⟨h1, h2⟩ := h
  obtain ⟨k1, k2⟩ := k
  rcases h2 with ⟨rfl, _⟩ | ⟨g', cap, cur, rfl, _, hh, _⟩
  · simp [Value.ownBlock] at hg
  · rcases k2 with ⟨rfl, _⟩ | ⟨g'', cap', cur', rfl, _, kk, _⟩
    · simp [Value.ownBlock] at hgr
    · simp [Value.ownBlock] at hg hgr
      subst hg; subst hgr
      rw [hh] at kk
      simp at kk
      exact hT kk.2.symm.symm
theorem own_grown {w w' : World} {base n m : Nat} {e f : TypeId} {v u : Value} {xs ys : List Value} (h : w.ownsRow base e 1 v n xs) (k : w.ownsRow base f 1 u m ys) (hT : e ≠ f) (hg : w.grownBy w' u.ownBlock) : w'.ownsRow base e 1 v n xs :=
  own_chg h (Chg.of_grown (B := fun b => u.ownBlock = some b) hg (fun k hk => hk)) (own_apart h k hT)
/-- A block that is not the row's own stays. -/
theorem blk_grown {w w' : World} {g : Nat} {o : Obj} {row : Option Nat} (h : w.heap[g]? = some o) (hg : w.grownBy w' row) (hn : row ≠ some g) : w'.heap[g]? = some o :=
  (hg.block g ((Array.getElem?_eq_some_iff.1 h).1) (fun e => hn e.symm)).trans h
/-- What a drawn region keeps, behind an append. -/
theorem Keep.grown {B : Nat → Prop} {w x x' : World} {row : Option Nat} (h : Keep B w x) (hg : x.grownBy x' row) (hr : ∀ k, row = some k → B k ∨ w.heap.size ≤ k) : Keep B w x' := by
  obtain ⟨y, rfl⟩ := h
  refine ⟨⟨x', Nat.le_trans y.size hg.size, fun k hk hn => ?_⟩, rfl⟩
  refine (hg.block k (Nat.lt_of_lt_of_le hk y.size) (fun e => ?_)).trans (y.block k hk hn)
  rcases hr k e.symm with h | h
  · exact hn h
  · omega
end Go.Proofs.YteicmbapipnbjaaDoor
