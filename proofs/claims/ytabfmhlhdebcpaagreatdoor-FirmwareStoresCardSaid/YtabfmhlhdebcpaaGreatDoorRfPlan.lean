/- In the round of a range over a function: a region whose order is open, with calls and stores, by a plan. -/
import Derived.Test.YtabfmhlhdebcpaaGreatDoorRfQuiet
import Derived.Test.YtabfmhlhdebcpaaGreatDoorPlanL
namespace Go.Proofs.YtabfmhlhdebcpaaGreatDoor
open Go.RowKit Go.Shelf
set_option linter.unusedVariables false
set_option linter.unusedSimpArgs false
section
variable {n : Nat} {P : Program} {ops : Array Oper} {Q : Exit → Act → World → Prop} {md : Region.Mode} {S : World → Prop}
theorem rowsIn_wide {row : String} {args : Array Value} {w : World} {R : Value → World → Prop} (h : Rows P row args w R) : RowsIn Fence.wide n P row args w R :=
  fun c cs _ => let ⟨v, w', r, s⟩ := h c cs; ⟨v, w', r, stepsIn_wide.2 s⟩
theorem opIn_wide {o : Oper} {a : Act} {w : World} {K : Act → World → Prop} (h : o.wp P a w K Q) : o.wpIn Fence.wide n P a w K Q := by
  unfold Oper.wp at h
  unfold Oper.wpIn
  refine ⟨fun _ _ => trivial, ?_⟩
  have e : o.semAt Fence.wide.round a.eval = execOp a.eval o := Oper.semAt_none _ _
  rw [e]
  revert h
  generalize (execOp a.eval o).run P w = r
  intro h
  cases r with
  | ok x w' =>
    cases x <;> simp only [Oper.upon, Oper.uponIn] at h ⊢ <;>
      first
        | exact h
        | exact ⟨fun hh => by simp [Fence.wide] at hh, callsIn_wide.2 h⟩
        | exact ⟨fun hh => by simp [Fence.wide] at hh, rowsIn_wide h⟩
  | halt x w' => cases x <;> simp only [Oper.upon, Oper.uponIn] at h ⊢ <;> exact h
theorem anyIn_wide (hL : ¬ LetsOut Q) : ∀ (fuel : Nat) (listed : Array Bool) (a : Act) (w : World), wpAny P md ops Q fuel listed a w → wpAnyIn Fence.wide n P md ops Q fuel listed a w
  | 0, _, _, _, h => h
  | fuel + 1, listed, a, w, h => ⟨h.1, fun i hi => by
    have h3 := wpOp_mono (fun a w h => anyIn_wide hL fuel _ a w h) (h.2 i hi)
    unfold wpOp at h3
    unfold wpOpIn
    cases ho : ops[i]? with
    | none => simpa [ho] using h3
    | some o =>
      simp only [ho] at h3 ⊢
      by_cases hw : Region.wanted o (yielded ops a.tmps) = true
      · rw [if_pos hw] at h3 ⊢
        rcases h3 with h3 | ⟨_, h3⟩
        · exact opIn_wide h3
        · exact absurd h3 hL
      · rw [if_neg hw] at h3 ⊢
        exact ⟨fun _ _ => trivial, h3⟩⟩
/-- A drawn region in a round: any walk of it outside rounds serves. -/
theorem wpIn_region_anyH {id : Nat} {a : Act} {w : World} {l : List Oper} (r : Nat) (hL : ¬ LetsOut Q) (hm : P.follows .mixedOrders = true) (hD : noDefer l = true)
    (h : wpAnyH P .any l.toArray Q S l.toArray.size (Array.replicate l.toArray.size false) a { w with drawn := w.drawn + 1 }) : (Code.region id l.toArray true).wpIn (Fence.wide.inRound r) n P Q a w :=
  wpIn_region_any hm (anyIn_round r (fun i o ho => noDefer_at hD ho) _ _ _ _ (anyIn_wide hL _ _ _ _ (wpAny_of_held _ _ _ _ h)))
/-- By a plan. -/
theorem wpIn_region_plan {id : Nat} {a : Act} {w : World} {l : List Oper} (r : Nat) (S : World → Prop) (plan : List (Bool × Nat)) (hL : ¬ LetsOut Q) (hm : P.follows .mixedOrders = true)
    (hB : (Region.noSelect l.toArray && planB l.toArray plan (Array.replicate l.toArray.size false) && (plan.length == l.toArray.size) && noDefer l) = true)
    (hQ : ∀ c (a : Act) (d : Option Tmp) v w, Q (.panic c) (a.put d v) w → Q (.panic c) a w) (hS : S { w with drawn := w.drawn + 1 })
    (h : wpS P l.toArray Q S plan a { w with drawn := w.drawn + 1 }) : (Code.region id l.toArray true).wpIn (Fence.wide.inRound r) n P Q a w := by
  simp only [Bool.and_eq_true, beq_iff_eq] at hB
  obtain ⟨⟨⟨hs, hp⟩, hl⟩, hD⟩ := hB
  refine wpIn_region_anyH (S := S) r hL hm hD ?_
  have h2 := wpAnyH_plan hs hQ plan _ _ _ hp hS h
  rw [hl] at h2
  exact h2
/-- A planned region of a round whose last operation may end the class. -/
theorem wpIn_region_planL {id : Nat} {a : Act} {w : World} {l : List Oper} (r : Nat) (B : Nat → Prop) (plan : List (Bool × Nat)) (z : Nat) (hL : ¬ LetsOut Q) (hm : P.follows .mixedOrders = true)
    (hB : (Region.noSelect l.toArray && planB l.toArray plan ((Array.replicate l.toArray.size false).setIfInBounds z true) && (plan.length + 1 == l.toArray.size) && lastB l.toArray z && noDefer l) = true)
    (hQ : ∀ c (a : Act) (d : Option Tmp) v w, Q (.panic c) (a.put d v) w → Q (.panic c) a w)
    (h : ∀ W, Hid (Keep B w W) → Hid (Below w.heap.size w W) → wpS P l.toArray (Exit.then (fun a w => wpOp P l.toArray Q z (Q .normal) a w) Q) (Keep B w) plan a W) : (Code.region id l.toArray true).wpIn (Fence.wide.inRound r) n P Q a w := by
  simp only [Bool.and_eq_true, beq_iff_eq] at hB
  obtain ⟨⟨⟨⟨b1, b2⟩, b3⟩, b4⟩, b5⟩ := hB
  have hz : z < l.toArray.size := by have := (lastB_all b4).1; omega
  have H := wpAnyH_plan (Q := Exit.then (fun a w => wpOp P l.toArray Q z (Q .normal) a w) Q) b1 (fun c a d v w h => hQ c a d v w h) plan ((Array.replicate l.toArray.size false).setIfInBounds z true) a w.drew b2 (Keep.start B w) (h _ (Lib.hid (Keep.start _ _)) (Lib.hid (gr_drew _)))
  have key := wpAny_last b4 plan.length (Array.replicate l.toArray.size false) a w.drew Array.size_replicate (fun k o ho hk => by rw [Array.getD_eq_getD_getElem?, Array.getElem?_replicate] at hk; split at hk <;> cases hk) (by rw [Array.getD_eq_getD_getElem?, Array.getElem?_replicate, if_pos hz]; rfl) (wpAny_of_held _ _ _ _ H)
  rw [b3] at key
  exact wpIn_region_any hm (anyIn_round r (fun i o ho => noDefer_at b5 ho) _ _ _ _ (anyIn_wide hL _ _ _ _ key))
end
end Go.Proofs.YtabfmhlhdebcpaaGreatDoor
