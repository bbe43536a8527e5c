/- The check of a plan, reckoned with a number in the place of a row of Bools: for long regions. -/
import Derived.Test.YtabfmhlhdebcpaaGreatDoorApp
namespace Go.Proofs.YtabfmhlhdebcpaaGreatDoor
open Go.RowKit
set_option linter.unusedVariables false
set_option linter.unusedSimpArgs false
def depsF (m : Nat) : List Edge → Bool
  | [] => true
  | e :: es => (!Region.binds .any e || m.testBit e.on) && depsF m es
def readyF (m : Nat) : List Oper → Nat → List Nat
  | [], _ => []
  | o :: l, j => if !m.testBit j && depsF m o.after.toList then j :: readyF m l (j + 1) else readyF m l (j + 1)
def onF (i : Nat) : List Edge → Bool
  | [] => false
  | e :: es => (Region.binds .any e && e.on == i) || onF i es
def freeF (ops : Array Oper) (oi : Oper) (i m : Nat) : List Oper → Nat → Bool
  | [], _ => true
  | oj :: l, j => (j == i || m.testBit j || onF i oj.after.toList || oi.apart ops oj) && freeF ops oi i m l (j + 1)
def planF (l : List Oper) : List (Bool × Nat) → Nat → Bool
  | [], m => (readyF m l 0).isEmpty
  | (true, i) :: r, m => (readyF m l 0).contains i && (match l[i]? with | some oi => freeF l.toArray oi i m l 0 | none => false) && planF l r (m ||| 1 <<< i)
  | (false, i) :: r, m => (readyF m l 0 == [i]) && planF l r (m ||| 1 <<< i)
theorem depsF_eq (m : Nat) (es : List Edge) : depsF m es = es.all fun e => !Region.binds .any e || m.testBit e.on := by
  induction es with
  | nil => rfl
  | cons e es ih => rw [depsF, ih, List.all_cons]
theorem onF_eq (i : Nat) (es : List Edge) : onF i es = es.any fun e => Region.binds .any e && e.on == i := by
  induction es with
  | nil => rfl
  | cons e es ih => rw [onF, ih, List.any_cons]
def Says (listed : Array Bool) (m n : Nat) : Prop := listed.size = n ∧ ∀ j, listed.getD j false = m.testBit j
theorem Says.get {listed : Array Bool} {m n : Nat} (h : Says listed m n) {j : Nat} (hj : j < n) : listed.getD j true = m.testBit j := by
  have h1 := h.2 j
  have hlt : j < listed.size := by rw [h.1]; exact hj
  simp [Array.getD, hlt] at h1 ⊢
  exact h1
theorem readyF_at (m : Nat) (ls : List Oper) (k : Nat) (p : Nat → Bool) (hp : ∀ i o, ls[i]? = some o → p (k + i) = (!m.testBit (k + i) && depsF m o.after.toList)) : readyF m ls k = (List.range' k ls.length).filter p := by
  induction ls generalizing k with
  | nil => rfl
  | cons o ls ih =>
    rw [readyF, List.length_cons, List.range'_succ, List.filter_cons]
    have h0 := hp 0 o rfl
    rw [Nat.add_zero] at h0
    rw [ih (k + 1) (fun i o' h => by have := hp (i + 1) o' (by simpa using h); rw [show k + (i + 1) = k + 1 + i by omega] at this; exact this), h0]
theorem ready_eq {l : List Oper} {listed : Array Bool} {m : Nat} (h : Says listed m l.length) : Region.ready .any l.toArray listed = readyF m l 0 := by
  unfold Region.ready
  rw [List.size_toArray, List.range_eq_range']
  refine (readyF_at m l 0 _ fun i o hi => ?_).symm
  rw [Nat.zero_add]
  have hlt : i < l.length := (List.getElem?_eq_some_iff.1 hi).1
  rw [h.get hlt, List.getElem?_toArray, hi]
  simp only [Option.map_some, Option.getD_some]
  rw [depsF_eq, ← Array.all_toList]
  congr 2
  funext e
  rw [h.2]
theorem freeF_at (ops : Array Oper) (oi : Oper) (i m : Nat) (ls : List Oper) (k : Nat) (h : freeF ops oi i m ls k = true) : ∀ j o, ls[j]? = some o → (k + j == i || m.testBit (k + j) || onF i o.after.toList || oi.apart ops o) = true := by
  induction ls generalizing k with
  | nil => intro j o hj; simp at hj
  | cons a ls ih =>
    rw [freeF, Bool.and_eq_true] at h
    intro j o hj
    cases j with
    | zero => simp at hj; subst hj; exact h.1
    | succ j =>
      simp at hj
      have := ih (k + 1) h.2 j o hj
      rw [show k + 1 + j = k + (j + 1) by omega] at this
      exact this
theorem free_of {l : List Oper} {listed : Array Bool} {m i : Nat} {oi : Oper} (hs : Says listed m l.length) (hi : l[i]? = some oi) (h : freeF l.toArray oi i m l 0 = true) : Region.free .any l.toArray listed i = true := by
  unfold Region.free
  rw [List.getElem?_toArray, hi]
  simp only [List.all_eq_true, List.mem_range, List.size_toArray]
  intro j hj
  have h1 := freeF_at _ _ _ _ _ _ h j l[j] (List.getElem?_eq_getElem hj)
  rw [Nat.zero_add, onF_eq, ← hs.get hj] at h1
  rw [List.getElem?_toArray, List.getElem?_eq_getElem hj]
  simp only [Bool.or_eq_true] at h1 ⊢
  rcases h1 with ((h1 | h1) | h1) | h1
  · exact .inl (.inl h1)
  · exact .inl (.inr h1)
  · rw [← Array.any_toList]; exact .inr (.inl h1)
  · exact .inr (.inr h1)
theorem says_set {listed : Array Bool} {m n i : Nat} (h : Says listed m n) (hi : i < n) : Says (listed.setIfInBounds i true) (m ||| 1 <<< i) n := by
  refine ⟨by simp [h.1], fun j => ?_⟩
  have h1 := h.2 j
  rw [Nat.testBit_or, Nat.one_shiftLeft, Nat.testBit_two_pow, ← h1]
  simp only [Array.getD_eq_getD_getElem?, Array.getElem?_setIfInBounds]
  by_cases e : i = j
  · subst e; rw [if_pos rfl, if_pos (by rw [h.1]; exact hi)]; simp
  · rw [if_neg e]; simp [e]
theorem planF_B (l : List Oper) (plan : List (Bool × Nat)) (listed : Array Bool) (m : Nat) (hs : Says listed m l.length) (h : planF l plan m = true) : planB l.toArray plan listed = true := by
  induction plan generalizing listed m with
  | nil => unfold planF at h; unfold planB; rw [ready_eq hs]; exact h
  | cons p r ih =>
    obtain ⟨b, i⟩ := p
    cases b
    · simp only [planF, Bool.and_eq_true, beq_iff_eq] at h
      simp only [planB, Bool.and_eq_true, beq_iff_eq]
      rw [ready_eq hs]
      have hi : i ∈ Region.ready .any l.toArray listed := by rw [ready_eq hs, h.1]; simp
      have hlt : i < l.length := by unfold Region.ready at hi; simpa using (List.mem_filter.1 hi).1
      exact ⟨h.1, ih _ _ (says_set hs hlt) h.2⟩
    · simp only [planF, Bool.and_eq_true] at h
      simp only [planB, Bool.and_eq_true]
      rw [ready_eq hs]
      obtain ⟨⟨h1, h2⟩, h3⟩ := h
      have hi : i ∈ Region.ready .any l.toArray listed := by rw [ready_eq hs]; simpa using h1
      have hlt : i < l.length := by unfold Region.ready at hi; simpa using (List.mem_filter.1 hi).1
      rw [List.getElem?_eq_getElem hlt] at h2
      exact ⟨⟨h1, free_of hs (List.getElem?_eq_getElem hlt) h2⟩, ih _ _ (says_set hs hlt) h3⟩
theorem says_start (n : Nat) : Says (Array.replicate n false) 0 n := ⟨by simp, fun j => by simp [Array.getD]⟩
/-- A planned region, its check reckoned fast. -/
theorem wp_region_planWF {P : Program} {Q : Exit → Act → World → Prop} {id : Nat} {a : Act} {w : World} {l : List Oper} (B : Nat → Prop) (plan : List (Bool × Nat)) (hm : P.follows .mixedOrders = true)
    (hn : Region.noSelect l.toArray = true) (hB : planF l plan 0 = true) (hl : (plan.length == l.length) = true)
    (hQ : ∀ c (a : Act) (d : Option Tmp) v w, Q (.panic c) (a.put d v) w → Q (.panic c) a w)
    (h : ∀ W, Hid (Keep B w W) → Hid (Below w.heap.size w W) → wpS P l.toArray Q (Keep B w) plan a W) : (Code.region id l.toArray true).wp P Q a w :=
  wp_region_planW B plan hm (by rw [hn, planF_B l plan _ 0 (by rw [List.size_toArray]; exact says_start _) hB, List.size_toArray, hl]; rfl) hQ h
end Go.Proofs.YtabfmhlhdebcpaaGreatDoor
