/- A region whose order is open and whose last operation waits for all the others: the class need not hold behind it. -/
import Derived.Test.YtabfmhlhdebcpaaGreatDoorApp
namespace Go.Proofs.YtabfmhlhdebcpaaGreatDoor
open Go.RowKit
set_option linter.unusedVariables false
set_option linter.unusedSimpArgs false
section
variable {P : Program} {ops : Array Oper} {Q : Exit → Act → World → Prop}
/-- Operation z waits for all the others, directly or through others; each waits for earlier ones alone. -/
def lastB (ops : Array Oper) (z : Nat) : Bool :=
  (ops.size == z + 1) && ((List.range z).all fun j => (List.range (z + 1)).any fun k => decide (j < k) && ((ops[k]?).map fun o => o.after.any fun e => Region.binds .any e && e.on == j).getD false) &&
    ((List.range (z + 1)).all fun j => ((ops[j]?).map fun o => o.after.all fun e => !Region.binds .any e || decide (e.on < j)).getD false)
theorem lastB_all {z : Nat} (h : lastB ops z = true) : ops.size = z + 1 ∧ (∀ j, j < z → ∃ k o, j < k ∧ k ≤ z ∧ ops[k]? = some o ∧ ∃ e ∈ o.after, Region.binds .any e = true ∧ e.on = j) ∧ (∀ j, j < z + 1 → ∃ o, ops[j]? = some o ∧ ∀ e ∈ o.after, Region.binds .any e = true → e.on < j) := by
  simp only [lastB, Bool.and_eq_true, List.all_eq_true, List.mem_range, beq_iff_eq] at h
  obtain ⟨⟨h1, h2⟩, h3⟩ := h
  refine ⟨h1, fun j hj => ?_, fun j hj => ?_⟩
  · have := h2 j hj
    rw [List.any_eq_true] at this
    obtain ⟨k, hk, this⟩ := this
    rw [List.mem_range] at hk
    simp only [Bool.and_eq_true, decide_eq_true_eq] at this
    obtain ⟨hjk, this⟩ := this
    cases ho : ops[k]? with
    | none => rw [ho] at this; simp at this
    | some o =>
      rw [ho] at this
      simp only [Option.map_some, Option.getD_some, Array.any_eq_true', Bool.and_eq_true, beq_iff_eq] at this
      exact ⟨k, o, hjk, by omega, ho, this⟩
  · have := h3 j hj
    cases ho : ops[j]? with
    | none => rw [ho] at this; simp at this
    | some o =>
      rw [ho] at this
      simp only [Option.map_some, Option.getD_some, Array.all_eq_true'] at this
      refine ⟨o, rfl, fun e he hb => ?_⟩
      have := this e he
      rw [hb] at this
      simpa using this
theorem getD_both {L : Array Bool} {j : Nat} (hj : j < L.size) : L.getD j true = L.getD j false := by simp [hj]
/-- What is listed has all that it waits for listed. -/
def Closed (ops : Array Oper) (L : Array Bool) : Prop := ∀ (k : Nat) (o : Oper), ops[k]? = some o → L.getD k false = true → ∀ e ∈ o.after, Region.binds .any e = true → L.getD e.on false = true
/-- What is not listed and of which all earlier are listed can come. -/
theorem least_ready {z : Nat} (hl : lastB ops z = true) {L : Array Bool} (hs : L.size = ops.size) {j : Nat} (hj : j < z + 1) (hn : L.getD j true = false) (hlow : ∀ k, k < j → L.getD k true = true) : j ∈ Region.ready .any ops L := by
  obtain ⟨h1, h2, h3⟩ := lastB_all hl
  rw [mem_ready]
  obtain ⟨o, ho, hd⟩ := h3 j hj
  refine ⟨hn, o, ho, fun e he hb => ?_⟩
  have := hd e he hb
  rw [← getD_both (by omega)]
  exact hlow _ this
theorem find_least {p : Nat → Prop} [DecidablePred p] : ∀ n, (∃ j, j < n ∧ p j) → ∃ j, j < n ∧ p j ∧ ∀ k, k < j → ¬ p k
  | 0, ⟨j, h, _⟩ => by omega
  | n + 1, ⟨j, h, hp⟩ => by
    by_cases hx : ∃ j, j < n ∧ p j
    · obtain ⟨k, hk, hp, hl⟩ := find_least n hx
      exact ⟨k, by omega, hp, hl⟩
    · have : j = n := by
        by_cases e : j = n
        · exact e
        · exact absurd ⟨j, by omega, hp⟩ hx
      subst this
      exact ⟨j, h, hp, fun k hk hpk => hx ⟨k, hk, hpk⟩⟩
theorem wpOp_then {K : Act → World → Prop} {i : Nat} {N : Act → World → Prop} {a : Act} {w : World} (h : wpOp P ops (Exit.then K Q) i N a w) : wpOp P ops Q i N a w := by
  unfold wpOp at *
  split
  · rename_i ho; rw [ho] at h; exact h
  · rename_i o ho
    rw [ho] at h
    simp only at h
    split
    · rename_i hw
      rw [if_pos hw] at h
      rcases h with h | ⟨h1, a0, w0, h2⟩
      · left
        unfold Oper.wp at *
        generalize (execOp a.eval o).run P w = r at *
        cases r with
        | ok n w' => cases n <;> exact h
        | halt x w' => cases x <;> exact h
      · exact .inr ⟨h1, a0, w0, h2⟩
    · rename_i hw; rw [if_neg hw] at h; exact h
theorem closed_set {L : Array Bool} {i : Nat} (h : Closed ops L) (hi : i ∈ Region.ready .any ops L) : Closed ops (L.setIfInBounds i true) := by
  intro k o ho hk e he hb
  rw [mem_ready] at hi
  obtain ⟨-, o', ho', hd⟩ := hi
  by_cases ek : k = i
  · subst ek; rw [ho] at ho'; cases ho'; exact getD_set_true (hd e he hb)
  · rw [getD_set_ne false (Ne.symm ek)] at hk
    exact getD_set_true (h k o ho hk e he hb)
theorem wpAny_last {z : Nat} (hl : lastB ops z = true) : ∀ (fuel : Nat) (L : Array Bool) (a : Act) (w : World), L.size = ops.size → Closed ops L → L.getD z true = false →
    wpAny P .any ops (Exit.then (fun a w => wpOp P ops Q z (Q .normal) a w) Q) fuel (L.setIfInBounds z true) a w → wpAny P .any ops Q (fuel + 1) L a w := by
  obtain ⟨h1, h2, h3⟩ := lastB_all hl
  have hne : ∀ L : Array Bool, L.size = ops.size → L.getD z true = false → Region.ready .any ops L ≠ [] := by
    intro L hs hz he
    obtain ⟨j, hj, hn, hlow⟩ := find_least (p := fun j => L.getD j true = false) (z + 1) ⟨z, by omega, hz⟩
    have := least_ready hl hs hj hn (fun k hk => by have := hlow k hk; simpa using this)
    rw [he] at this; cases this
  have hdone : ∀ L : Array Bool, L.size = ops.size → Closed ops L → z ∈ Region.ready .any ops L → Region.ready .any ops (L.setIfInBounds z true) = [] := by
    intro L hs hcl hz
    rw [mem_ready] at hz
    obtain ⟨h0, o, ho, hd⟩ := hz
    have hall : ∀ n j, j < z → z - j ≤ n → L.getD j false = true := by
      intro n
      induction n with
      | zero => intro j hj hn; omega
      | succ n ihn =>
        intro j hj hn
        obtain ⟨k, ok, hjk, hkz, hok, e, he, hb, hon⟩ := h2 j hj
        subst hon
        by_cases ek : k = z
        · subst ek; rw [ho] at hok; cases hok; exact hd e he hb
        · exact hcl k ok hok (ihn k (by omega) (by omega)) e he hb
    rw [List.eq_nil_iff_forall_not_mem]
    intro j hj
    rw [mem_ready] at hj
    obtain ⟨hj0, o', ho', -⟩ := hj
    have hjlt : j < z + 1 := by have := (Array.getElem?_eq_some_iff.1 ho').1; omega
    by_cases e : j = z
    · subst e; simp at hj0
    · rw [getD_set_ne true (Ne.symm e)] at hj0
      have := hall z j (by omega) (by omega)
      rw [← getD_both (by omega), hj0] at this
      cases this
  have hback : ∀ L : Array Bool, L.size = ops.size → L.getD z true = false → Region.ready .any ops (L.setIfInBounds z true) = [] → z ∈ Region.ready .any ops L := by
    intro L hs hz he
    refine least_ready hl hs (by omega) hz fun k hk => ?_
    by_cases hkl : L.getD k true = true
    · exact hkl
    · exfalso
      obtain ⟨j, hj, hn, hlow⟩ := find_least (p := fun j => L.getD j true = false) z ⟨k, hk, by simpa using hkl⟩
      have hr := least_ready hl (L := L) hs (by omega) hn (fun k hk => by have := hlow k hk; simpa using this)
      have := ready_mono (i := z) hr (by omega)
      rw [he] at this; cases this
  intro fuel
  induction fuel with
  | zero =>
    intro L a w hs hcl hz H
    refine ⟨fun he => absurd he (hne L hs hz), fun i hi => ?_⟩
    by_cases e : i = z
    · subst e
      exact wpOp_mono (fun a' w' h => ⟨H.1, h⟩) H.2
    · have := ready_mono (i := z) hi e
      rw [H.1] at this; cases this
  | succ fuel ih =>
    intro L a w hs hcl hz H
    refine ⟨fun he => absurd he (hne L hs hz), fun i hi => ?_⟩
    by_cases e : i = z
    · subst e
      have hr := hdone L hs hcl hi
      exact wpOp_mono (fun a' w' h => ⟨fun _ => h, by rw [hr]; simp⟩) (H.1 hr)
    · have hr := ready_mono (i := z) hi e
      refine wpOp_mono (fun a' w' h => ?_) (wpOp_then (H.2 i hr))
      refine ih (L.setIfInBounds i true) a' w' (by simp [hs]) (closed_set hcl hi) (by rw [getD_set_ne true e]; exact hz) ?_
      have hc : (L.setIfInBounds i true).setIfInBounds z true = (L.setIfInBounds z true).setIfInBounds i true := by
        rw [Array.setIfInBounds_comm _ _ (Ne.symm e)]
      rw [hc]; exact h
/-- A planned region whose last operation may end the class. -/
theorem wp_region_planL {id : Nat} {a : Act} {w : World} {l : List Oper} (B : Nat → Prop) (plan : List (Bool × Nat)) (z : Nat) (hm : P.follows .mixedOrders = true)
    (hB : (Region.noSelect l.toArray && planB l.toArray plan ((Array.replicate l.toArray.size false).setIfInBounds z true) && (plan.length + 1 == l.toArray.size) && lastB l.toArray z) = true)
    (hQ : ∀ c (a : Act) (d : Option Tmp) v w, Q (.panic c) (a.put d v) w → Q (.panic c) a w)
    (h : ∀ W, Hid (Keep B w W) → Hid (Below w.heap.size w W) → wpS P l.toArray (Exit.then (fun a w => wpOp P l.toArray Q z (Q .normal) a w) Q) (Keep B w) plan a W) : (Code.region id l.toArray true).wp P Q a w := by
  simp only [Bool.and_eq_true, beq_iff_eq] at hB
  obtain ⟨⟨⟨b1, b2⟩, b3⟩, b4⟩ := hB
  have hz : z < l.toArray.size := by have := (lastB_all b4).1; omega
  have H := wpAnyH_plan (Q := Exit.then (fun a w => wpOp P l.toArray Q z (Q .normal) a w) Q) b1 (fun c a d v w h => hQ c a d v w h) plan ((Array.replicate l.toArray.size false).setIfInBounds z true) a w.drew b2 (Keep.start B w) (h _ (Lib.hid (Keep.start _ _)) (Lib.hid (gr_drew _)))
  have key := wpAny_last b4 plan.length (Array.replicate l.toArray.size false) a w.drew Array.size_replicate (fun k o ho hk => by rw [Array.getD_eq_getD_getElem?, Array.getElem?_replicate] at hk; split at hk <;> cases hk) (by rw [Array.getD_eq_getD_getElem?, Array.getElem?_replicate, if_pos hz]; rfl) (wpAny_of_held _ _ _ _ H)
  rw [b3] at key
  exact wp_region_any hm key
theorem wpOp_list {i : Nat} {a : Act} {w : World} {o : Oper} (ho : ops[i]? = some o) (h : wpList P ops Q [o] a w) : wpOp P ops Q i (Q .normal) a w := by
  unfold wpOp
  rw [ho]
  unfold wpList at h
  simp only
  have hK : wpList P ops Q [] = Q .normal := rfl
  rw [hK] at h
  split
  · rename_i hw
    rw [if_pos hw] at h; exact h
  · rename_i hw
    rw [if_neg hw] at h; exact h
theorem wpL_last {z : Nat} {a : Act} {w : World} {o : Oper} (ho : ops[z]? = some o) (h : wpList P ops Q [o] a w) : Exit.then (fun a w => wpOp P ops Q z (Q .normal) a w) Q .normal a w := wpOp_list ho h
end
end Go.Proofs.YtabfmhlhdebcpaaGreatDoor
