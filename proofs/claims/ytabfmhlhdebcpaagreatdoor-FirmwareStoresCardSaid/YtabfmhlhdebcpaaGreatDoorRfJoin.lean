/- The law of a range over a function: the act behind the assignment left open; the ways out met. Printed by gendscr.py. -/
import Derived.RangeFuncNested
import Derived.RangeFuncBound
import Derived.RangeFuncCalls
import Derived.RangeFuncLeaves
import Derived.RangeFuncFrom
import Derived.Shelf.Abstract
import Derived.Shelf.RegionOpen
import Derived.WalkKit
import Derived.OwnWalkIn
import Derived.TacticsInMore
import Derived.LoopNIn
import Derived.LoopIn
import Derived.Deep.DeepCutAuto
import Derived.WalkMore
import Derived.Test.YtabfmhlhdebcpaaGreatDoorChg
namespace Go.Proofs.YtabfmhlhdebcpaaGreatDoor
open Go.RowKit Go.Shelf
set_option linter.unusedVariables false
set_option linter.unusedSimpArgs false
theorem grown_of_below {w w' : World} (h : Below w.heap.size w w') : w.grownBy w' none :=
  ⟨h.os, h.tape, h.output, h.size, fun k hk _ => h.block k hk⟩
theorem ko_below {W W' : World} (h : Below W.heap.size W W') : KeepsOthers W W' := ⟨h.size, fun k o hk ho => (h.block k (Array.getElem?_eq_some_iff.1 hk).1).trans hk⟩
/-- What changes cells alone. -/
theorem ko_chg {B : Nat → Prop} {W W' : World} (h : Chg B W W') (hB : ∀ k, B k → ∀ o, W.heap[k]? = some o → o.isCells = true) : KeepsOthers W W' :=
  ⟨h.size, fun k o hk ho => (h.block k (Array.getElem?_eq_some_iff.1 hk).1 (fun hb => by rw [hB k hb o hk] at ho; cases ho)).trans hk⟩
namespace Rf
/-- The first k indices. -/
def first (n k : Nat) : List (Fin n) := (List.finRange n).take k
theorem first_val (n k : Nat) (h : k ≤ n) : (first n k).map (·.val) = List.range k := by
  unfold first
  rw [List.map_take]
  have : (List.finRange n).map (·.val) = List.range n := by
    apply List.ext_getElem <;> simp
  rw [this, List.take_range, Nat.min_eq_left h]
theorem first_len (n k : Nat) (h : k ≤ n) : (first n k).length = k := by
  have := congrArg List.length (first_val n k h)
  simpa using this
theorem first_more (n k : Nat) (h : k < n) : first n (k + 1) = first n k ++ [⟨k, h⟩] := by
  unfold first
  rw [List.take_succ_eq_append_getElem (by simpa using h)]
  simp
end Rf
/-- The fourth law, the act behind the assignment left open; a break and the end meet. -/
theorem rf_join {F : Fence} {n : Nat} {P : Program} {α : Type} {g : Operand} {ps : Array Tmp} {assign body : Code} {id : Nat} {Q : Exit → Act → World → Prop} {a : Act} {w : World}
    (hro : F.round = none) (h1 : 1 ≤ n) {gf : Nat} {lb : Array Value} (hg : a.eval g = .func (.func gf) #[] lb) (hFg : F.fn gf) (eg : ∀ args w, (callFunc gf args).run P w = .ok (.enter gf args) w)
    {encs : α → Array Value} {Kp : World → World → Prop} {S Sp : List α → Prop} {N : Nat} {w0 : World} (hseq : SeqStopsK F (n - 1) P gf lb encs Kp S Sp N w0)
    (hKt : ∀ {A B C : World}, Kp A B → Kp B C → Kp A C) (hKb : ∀ (W : World) (l : Nat) (o o' : Obj), w.heap.size ≤ l → W.heap[l]? = some o → o.isCells = false → o.isWalk = false → Kp W (W.putObj l o')) (hb0 : Below w0.heap.size w0 w) (hps : ∀ x, (encs x).size = ps.size)
    (I Ix : List α → World → Prop) (Z : World → Prop) (hI : OwnFrom w.heap.size I) (hIx : OwnFrom w.heap.size Ix) (h0 : I [] w)
    (hab : ∃ a₁ : α → Act, (∀ (l : Nat) (x : α) (W : World) (K : Act → World → Prop), K (a₁ x) W →
      assign.wpIn (F.inRound l) (n - 1 - 1) P (Exit.then K (fun _ _ _ => False)) { tmps := (ps.zip (encs x)).foldl (fun t (p, v) => t.setIfInBounds p v) a.tmps, defers := [] } W) ∧
      (∀ (l : Nat) (pre : List α) (x : α) (W : World), I pre W → pre.length < N → body.wpIn (F.inRound l) (n - 1 - 1) P (ownPostK Kp I (fun c pre W => (c = .ret ∧ ¬ Sp pre) ∨ (c = .exit id ∧ Ix pre W)) (pre ++ [x]) W) (a₁ x) W))
    (hdone : ∀ (xs : List α) (W : World), S xs → I xs W → Z W)
    (hstop : ∀ (pre : List α) (W : World), Sp pre → Ix pre W → Z W)
    (hgo : ∀ (D : Nat) (W : World), w.heap.size ≤ D → Z W → W.heap[D]? = some (.deferred (some [])) → Q .normal { a with defers := { target := .collected D, args := #[] } :: a.defers } W) :
    (Code.rangeFunc g ps assign body).wpIn F n P (Exit.inBlock id Q) a w := by
  obtain ⟨a₁, ha, hb⟩ := hab
  refine wpIn_rangeFunc_ownF hro h1 hg hFg eg hseq hKt hKb hb0 hps I (fun c pre W => (c = .ret ∧ ¬ Sp pre) ∨ (c = .exit id ∧ Ix pre W)) hI ?_ h0 a₁ ha hb ?_ ?_
  · rintro c s A B row (⟨h1, h2⟩ | ⟨h1, h2⟩) hg hr
    · exact .inl ⟨h1, h2⟩
    · exact .inr ⟨h1, hIx s A B row h2 hg hr⟩
  · intro D xs W hD hS hi hK
    exact hgo D W hD (hdone xs W hS hi) hK
  · rintro D c pre W hD hSp (⟨h1, h2⟩ | ⟨rfl, h2⟩) hK
    · exact absurd hSp h2
    · refine wpIn_exit ?_
      show (if id = id then _ else _)
      rw [if_pos rfl]
      exact hgo D W hD (hstop pre W hSp h2) hK
/-- The fourth law, the act behind the assignment left open; a return and the end. -/
theorem rf_ret {F : Fence} {n : Nat} {P : Program} {α : Type} {g : Operand} {ps : Array Tmp} {assign body : Code} {Q : Exit → Act → World → Prop} {a : Act} {w : World}
    (hro : F.round = none) (h1 : 1 ≤ n) {gf : Nat} {lb : Array Value} (hg : a.eval g = .func (.func gf) #[] lb) (hFg : F.fn gf) (eg : ∀ args w, (callFunc gf args).run P w = .ok (.enter gf args) w)
    {encs : α → Array Value} {Kp : World → World → Prop} {S Sp : List α → Prop} {N : Nat} {w0 : World} (hseq : SeqStopsK F (n - 1) P gf lb encs Kp S Sp N w0)
    (hKt : ∀ {A B C : World}, Kp A B → Kp B C → Kp A C) (hKb : ∀ (W : World) (l : Nat) (o o' : Obj), w.heap.size ≤ l → W.heap[l]? = some o → o.isCells = false → o.isWalk = false → Kp W (W.putObj l o')) (hb0 : Below w0.heap.size w0 w) (hps : ∀ x, (encs x).size = ps.size)
    (I Ix : List α → World → Prop) (hI : OwnFrom w.heap.size I) (hIx : OwnFrom w.heap.size Ix) (h0 : I [] w)
    (hab : ∃ a₁ : α → Act, (∀ (l : Nat) (x : α) (W : World) (K : Act → World → Prop), K (a₁ x) W →
      assign.wpIn (F.inRound l) (n - 1 - 1) P (Exit.then K (fun _ _ _ => False)) { tmps := (ps.zip (encs x)).foldl (fun t (p, v) => t.setIfInBounds p v) a.tmps, defers := [] } W) ∧
      (∀ (l : Nat) (pre : List α) (x : α) (W : World), I pre W → pre.length < N → body.wpIn (F.inRound l) (n - 1 - 1) P (ownPostK Kp I (fun c pre W => c = .ret ∧ Ix pre W) (pre ++ [x]) W) (a₁ x) W))
    (hdone : ∀ (D : Nat) (xs : List α) (W : World), w.heap.size ≤ D → S xs → I xs W → W.heap[D]? = some (.deferred (some [])) → Q .normal { a with defers := { target := .collected D, args := #[] } :: a.defers } W)
    (hstop : ∀ (D : Nat) (pre : List α) (W : World), w.heap.size ≤ D → Sp pre → Ix pre W → W.heap[D]? = some (.deferred (some [])) → Q .ret { a with defers := { target := .collected D, args := #[] } :: a.defers } W) :
    (Code.rangeFunc g ps assign body).wpIn F n P Q a w := by
  obtain ⟨a₁, ha, hb⟩ := hab
  refine wpIn_rangeFunc_ownF hro h1 hg hFg eg hseq hKt hKb hb0 hps I (fun c pre W => c = .ret ∧ Ix pre W) hI ?_ h0 a₁ ha hb hdone ?_
  · rintro c s A B row ⟨h1, h2⟩ hg hr
    exact ⟨h1, hIx s A B row h2 hg hr⟩
  · rintro D c pre W hD hSp ⟨rfl, h2⟩ hK
    exact wpIn_ret (hstop D pre W hD hSp h2 hK)
end Go.Proofs.YtabfmhlhdebcpaaGreatDoor
