/- A region whose order is open, by a plan with branches: where two operations that change the world can both come next, each comes first once. -/
import Derived.Test.YtabfmhlhdebcpaaGreatDoorApp
namespace Go.Proofs.YtabfmhlhdebcpaaGreatDoor
open Go.RowKit
set_option linter.unusedVariables false
set_option linter.unusedSimpArgs false

inductive PlanT where
  | done : PlanT
  | firm : Nat → PlanT → PlanT
  | one : Nat → PlanT → PlanT
  | two : Nat → PlanT → Nat → PlanT → PlanT
namespace PlanT
def fuel : PlanT → Nat
  | done => 0
  | firm _ r => r.fuel + 1
  | one _ r => r.fuel + 1
  | two _ r _ s => max r.fuel s.fuel + 1
end PlanT
section
variable {P : Program} {ops : Array Oper} {Q : Exit → Act → World → Prop} {S : World → Prop}
def wpT (P : Program) (ops : Array Oper) (Q : Exit → Act → World → Prop) (S : World → Prop) : PlanT → Act → World → Prop
  | .done, a, w => Q .normal a w
  | .firm i r, a, w => ∃ o, ops[i]? = some o ∧ if Region.wanted o (yielded ops a.tmps) then ∃ v, (∀ x, S x → (execOp a.eval o).run P x = .ok (.value v) x) ∧ wpT P ops Q S r (a.put o.dst v) w else wpT P ops Q S r (a.put o.dst undef) w
  | .one i r, a, w => wpOp P ops Q i (fun a' w' => S w' ∧ wpT P ops Q S r a' w') a w
  | .two i r j s, a, w => wpOp P ops Q i (fun a' w' => S w' ∧ wpT P ops Q S r a' w') a w ∧ wpOp P ops Q j (fun a' w' => S w' ∧ wpT P ops Q S s a' w') a w
/-- The plan fits; n: how many operations are still to come. -/
def planT (ops : Array Oper) : PlanT → Array Bool → Nat → Bool
  | .done, listed, n => (Region.ready .any ops listed).isEmpty && n == 0
  | .firm i r, listed, n => (Region.ready .any ops listed).contains i && Region.free .any ops listed i && 0 < n && planT ops r (listed.setIfInBounds i true) (n - 1)
  | .one i r, listed, n => (Region.ready .any ops listed == [i]) && 0 < n && planT ops r (listed.setIfInBounds i true) (n - 1)
  | .two i r j s, listed, n => (Region.ready .any ops listed == [i, j]) && 0 < n && planT ops r (listed.setIfInBounds i true) (n - 1) && planT ops s (listed.setIfInBounds j true) (n - 1)
theorem wpAnyH_planT (hs : Region.noSelect ops = true) (hQ : ∀ c (a : Act) (d : Option Tmp) v w, Q (.panic c) (a.put d v) w → Q (.panic c) a w) :
    ∀ (plan : PlanT) (n : Nat) (listed : Array Bool) (a : Act) (w : World), planT ops plan listed n = true → S w → wpT P ops Q S plan a w → wpAnyH P .any ops Q S n listed a w
  | .done, n, listed, a, w, hB, hS, h => by
    simp only [planT, Bool.and_eq_true, beq_iff_eq] at hB
    obtain ⟨h1, rfl⟩ := hB
    exact ⟨by simpa using h1, h⟩
  | .firm i r, n, listed, a, w, hB, hS, h => by
    simp only [planT, Bool.and_eq_true, decide_eq_true_eq] at hB
    obtain ⟨⟨⟨hr, hf⟩, hn⟩, hB'⟩ := hB
    obtain ⟨n, rfl⟩ : ∃ m, n = m + 1 := ⟨n - 1, by omega⟩
    obtain ⟨o, ho, h⟩ := h
    by_cases hw : Region.wanted o (yielded ops a.tmps) = true
    · rw [if_pos hw] at h
      obtain ⟨v, hv, h⟩ := h
      exact wpAnyH_take ho hs hf hr (fun c a w => hQ c a _ _ w) (.inl ⟨hw, hv⟩) hS (wpAnyH_planT hs hQ r _ _ _ _ hB' hS h)
    · rw [if_neg hw] at h
      exact wpAnyH_take ho hs hf hr (fun c a w => hQ c a _ _ w) (.inr ⟨by simpa using hw, rfl⟩) hS (wpAnyH_planT hs hQ r _ _ _ _ hB' hS h)
  | .one i r, n, listed, a, w, hB, hS, h => by
    simp only [planT, Bool.and_eq_true, beq_iff_eq, decide_eq_true_eq] at hB
    obtain ⟨⟨hr, hn⟩, hB'⟩ := hB
    obtain ⟨n, rfl⟩ : ∃ m, n = m + 1 := ⟨n - 1, by omega⟩
    refine wpAnyH_all hr (by simp) fun j hj => ?_
    obtain rfl : j = i := by simpa using hj
    refine wpOp_mono (fun a' w' ⟨hS', h'⟩ => ⟨hS', wpAnyH_planT hs hQ r _ _ _ _ hB' hS' h'⟩) h
  | .two i r j s, n, listed, a, w, hB, hS, h => by
    simp only [planT, Bool.and_eq_true, beq_iff_eq, decide_eq_true_eq] at hB
    obtain ⟨⟨⟨hr, hn⟩, hB1⟩, hB2⟩ := hB
    obtain ⟨n, rfl⟩ : ∃ m, n = m + 1 := ⟨n - 1, by omega⟩
    refine wpAnyH_all hr (by simp) fun k hk => ?_
    rcases (by simpa using hk : k = i ∨ k = j) with rfl | rfl
    · exact wpOp_mono (fun a' w' ⟨hS', h'⟩ => ⟨hS', wpAnyH_planT hs hQ r _ _ _ _ hB1 hS' h'⟩) h.1
    · exact wpOp_mono (fun a' w' ⟨hS', h'⟩ => ⟨hS', wpAnyH_planT hs hQ s _ _ _ _ hB2 hS' h'⟩) h.2
/-- A planned region: its first world is a letter. -/
theorem wp_region_planT {id : Nat} {a : Act} {w : World} {l : List Oper} (B : Nat → Prop) (plan : PlanT) (hm : P.follows .mixedOrders = true)
    (hB : (Region.noSelect l.toArray && planT l.toArray plan (Array.replicate l.toArray.size false) l.toArray.size) = true)
    (hQ : ∀ c (a : Act) (d : Option Tmp) v w, Q (.panic c) (a.put d v) w → Q (.panic c) a w)
    (h : ∀ W, Hid (Keep B w W) → Hid (Below w.heap.size w W) → wpT P l.toArray Q (Keep B w) plan a W) : (Code.region id l.toArray true).wp P Q a w := by
  simp only [Bool.and_eq_true] at hB
  refine wp_region_held (S := Keep B w) hm ?_
  exact wpAnyH_planT hB.1 hQ plan _ _ a w.drew hB.2 (Keep.start _ _) (h _ (Lib.hid (Keep.start _ _)) (Lib.hid (gr_drew _)))
/-- One firm operation, what follows behind a variable. -/
theorem wpT_firm {a : Act} {w : World} {i : Nat} {r : PlanT} {o : Oper} (ho : ops[i]? = some o)
    (h : ∀ K : Act → Prop, (∀ a, wpT P ops Q S r a w → K a) → if Region.wanted o (yielded ops a.tmps) then ∃ v, (∀ x, S x → (execOp a.eval o).run P x = .ok (.value v) x) ∧ K (a.put o.dst v) else K (a.put o.dst undef)) :
    wpT P ops Q S (.firm i r) a w := ⟨o, ho, h _ (fun _ h => h)⟩
theorem wpOp_chain {a : Act} {w : World} {i : Nat} {r : PlanT} {o : Oper} (ho : ops[i]? = some o)
    (h : wpList P ops (Exit.then (fun a' w' => S w' ∧ wpT P ops Q S r a' w') Q) [o] a w) : wpOp P ops Q i (fun a' w' => S w' ∧ wpT P ops Q S r a' w') a w := by
  unfold wpOp
  rw [ho]
  unfold wpList at h
  simp only
  have hK : wpList P ops (Exit.then (fun a' w' => S w' ∧ wpT P ops Q S r a' w') Q) [] = fun a' w' => S w' ∧ wpT P ops Q S r a' w' := rfl
  rw [hK] at h
  split
  · rename_i hw
    rw [if_pos hw] at h
    rcases h with h | ⟨h1, a0, w0, h2⟩
    · exact .inl (wp_post h)
    · exact .inr ⟨h1, a0, w0, h2⟩
  · rename_i hw
    rw [if_neg hw] at h
    exact h
/-- The one operation that comes next. -/
theorem wpT_chain {a : Act} {w : World} {i : Nat} {r : PlanT} {o : Oper} (ho : ops[i]? = some o)
    (h : wpList P ops (Exit.then (fun a' w' => S w' ∧ wpT P ops Q S r a' w') Q) [o] a w) : wpT P ops Q S (.one i r) a w := wpOp_chain ho h
/-- Either of two comes next. -/
theorem wpT_two {a : Act} {w : World} {i j : Nat} {r s : PlanT} {o p : Oper} (ho : ops[i]? = some o) (hp : ops[j]? = some p)
    (h : wpList P ops (Exit.then (fun a' w' => S w' ∧ wpT P ops Q S r a' w') Q) [o] a w) (k : wpList P ops (Exit.then (fun a' w' => S w' ∧ wpT P ops Q S s a' w') Q) [p] a w) : wpT P ops Q S (.two i r j s) a w := ⟨wpOp_chain ho h, wpOp_chain hp k⟩
end
end Go.Proofs.YtabfmhlhdebcpaaGreatDoor
