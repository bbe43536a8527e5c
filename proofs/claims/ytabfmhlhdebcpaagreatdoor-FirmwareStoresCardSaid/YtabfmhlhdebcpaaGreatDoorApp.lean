/- Laws for appends of bytes: onto a new empty slice, and onto a slice that the call owns; a planned region whose first world is a letter. -/
import Derived.Test.YtabfmhlhdebcpaaGreatDoorPlan
import Derived.Test.YtabfmhlhdebcpaaGreatDoorSlices
namespace Go.Proofs.YtabfmhlhdebcpaaGreatDoor
open Go.RowKit
set_option linter.unusedVariables false
set_option linter.unusedSimpArgs false

theorem own_below {w w' : World} {base : Nat} {e : TypeId} {size : Nat} {v : Value} {n : Nat} {xs : List Value} (h : w.ownsRow base e size v n xs) (hb : Below w.heap.size w w') : w'.ownsRow base e size v n xs := by
  refine h.kept (row := none) ⟨hb.os, hb.tape, hb.output, hb.size, fun k hk _ => hb.block k hk⟩ ?_
  cases hv : v.ownBlock
  · exact .inl rfl
  · exact .inr (by simp)
section
variable {ops : Array Oper} {rest : List Oper} {o : Oper} {a : Act} {Q : Exit → Act → World → Prop} {W : World}
/-- 'append([]byte{}, x...)', behind the allocation of the empty slice. -/
theorem app_fresh (hgd : o.guard = none) (s x : Operand) (ho : o.op = .call { callee := .builtin .append, args := #[s, x], argTypes := #[42, 42] })
    (n : Nat) (hs : a.eval s = .slice (some ⟨n, 0, none⟩) 0 0) (hn : n = W.heap.size) (v : Value) (l : List (BitVec 8)) (hx : a.eval x = v) (hv : BytesV W v l) (hl : l.length ≤ 140737488355328)
    (h : ∀ v' w', w'.ownsRow W.heap.size 5 1 v' l.length (by8 l) → Below W.heap.size W w' → wpList Tryz.prog ops Q rest (a.put o.dst v') w') : wpList Tryz.prog ops Q (o :: rest) a (W.alloc (.cells #[] 5)) := by
  subst hn
  have hb := gr_alloc W (.cells #[] 5)
  have hown := World.ownsRow_made (base := W.heap.size) (e := 5) (size := 1) W #[] 0 (Nat.le_refl _) (by decide) rfl
  obtain ⟨av, cv, rfl, n1, n2, n3, n4⟩ := hv.below hb
  refine app_law bytesOk hgd s x ho W.heap.size _ 0 [] hs hown av l.length cv (by8 l) hx n1 n2 n4 (by simp) (by8_one l) (by omega) (by omega) hb.size ?_
  intro v' w' ho' hg' _
  simp only [Nat.zero_add, List.nil_append] at ho'
  exact h v' w' ho' (hb.grown hg' hb.size (fun k hk => (hown.lt k hk).1))
/-- 'append(own, x...)'. -/
theorem app_more (hgd : o.guard = none) (s x : Operand) (ho : o.op = .call { callee := .builtin .append, args := #[s, x], argTypes := #[42, 42] })
    (u : Value) (base n : Nat) (k : List (BitVec 8)) (hs : a.eval s = u) (hown : W.ownsRow base 5 1 u n (by8 k)) (hbase : base ≤ W.heap.size)
    (v : Value) (l : List (BitVec 8)) (hx : a.eval x = v) (hv : BytesV W v l) (hl : n + l.length ≤ 140737488355328)
    (h : ∀ v' w', w'.ownsRow base 5 1 v' (n + l.length) (by8 (k ++ l)) → W.grownBy w' u.ownBlock → Below base W w' → wpList Tryz.prog ops Q rest (a.put o.dst v') w') : wpList Tryz.prog ops Q (o :: rest) a W := by
  obtain ⟨av, cv, rfl, n1, n2, n3, n4⟩ := hv
  refine app_law bytesOk hgd s x ho base _ n (by8 k) hs hown av l.length cv (by8 l) hx n1 n2 n4 (by simp) (by8_one l) (by omega) (by omega) hbase ?_
  intro v' w' ho' hg' _
  rw [← by8_append] at ho'
  exact h v' w' ho' hg' (((Below.refl base W)).grown hg' hbase (fun k hk => (hown.lt k hk).1))
end
/-- A planned region: its first world is a letter. -/
theorem wp_region_planW {P : Program} {Q : Exit → Act → World → Prop} {id : Nat} {a : Act} {w : World} {l : List Oper} (B : Nat → Prop) (plan : List (Bool × Nat)) (hm : P.follows .mixedOrders = true)
    (hB : (Region.noSelect l.toArray && planB l.toArray plan (Array.replicate l.toArray.size false) && (plan.length == l.toArray.size)) = true)
    (hQ : ∀ c (a : Act) (d : Option Tmp) v w, Q (.panic c) (a.put d v) w → Q (.panic c) a w)
    (h : ∀ W, Hid (Keep B w W) → Hid (Below w.heap.size w W) → wpS P l.toArray Q (Keep B w) plan a W) : (Code.region id l.toArray true).wp P Q a w :=
  wp_region_plan (Keep B w) plan hm hB hQ (Keep.start _ _) (h _ (Lib.hid (Keep.start _ _)) (Lib.hid (gr_drew _)))
/-- What the call owns from 'base' on is new: all that was there before 'base' is as it was. -/
theorem gr_base {w a b : World} (h : Below w.heap.size w a) (k : Below w.heap.size a b) : Below w.heap.size w b := h.trans k
theorem Keep.base {B : Nat → Prop} {w x x' : World} (h : Keep B w x) (hb : Below w.heap.size x x') : Keep B w x' := by
  obtain ⟨y, rfl⟩ := h
  exact ⟨⟨x', Nat.le_trans y.size hb.size, fun k hk hn => (hb.block k hk).trans (y.block k hk hn)⟩, rfl⟩
end Go.Proofs.YtabfmhlhdebcpaaGreatDoor
