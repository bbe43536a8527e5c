/- Bytes that are laid at places of a list, and read there. Plain laws. -/
import Derived.Test.YtjcgdenkmmgmfaaGreatDoorWireMath
namespace Go.Proofs.YtjcgdenkmmgmfaaGreatDoor
set_option linter.unusedVariables false
set_option linter.unusedSimpArgs false
namespace Lay
section
variable {α : Type}
/-- x laid over l from p on. -/
def lay (l : List α) (p : Nat) (x : List α) : List α := l.take p ++ (x ++ l.drop (p + x.length))
theorem lay_len {l x : List α} {p : Nat} (h : p + x.length ≤ l.length) : (lay l p x).length = l.length := by
  unfold lay; simp only [List.length_append, List.length_take, List.length_drop]; omega
theorem lay_get {l x : List α} {p : Nat} (h : p + x.length ≤ l.length) (i : Nat) : (lay l p x)[i]? = if p ≤ i ∧ i < p + x.length then x[i - p]? else l[i]? := by
  unfold lay
  have h1 : (l.take p).length = p := by rw [List.length_take]; omega
  by_cases h2 : i < p
  · rw [List.getElem?_append_left (by omega), List.getElem?_take_of_lt h2, if_neg (by omega)]
  · rw [List.getElem?_append_right (by omega), h1]
    by_cases h3 : i < p + x.length
    · rw [List.getElem?_append_left (by omega), if_pos ⟨by omega, h3⟩]
    · rw [List.getElem?_append_right (by omega), if_neg (by omega), List.getElem?_drop]
      congr 1; omega
theorem lay_nil (l : List α) (p : Nat) : lay l p [] = l := by unfold lay; simp
theorem lay_comm {l x y : List α} {p q : Nat} (hp : p + x.length ≤ l.length) (hq : q + y.length ≤ l.length) (h : p + x.length ≤ q ∨ q + y.length ≤ p) : lay (lay l p x) q y = lay (lay l q y) p x := by
  apply List.ext_getElem?
  intro i
  rw [lay_get (l := lay l p x) (x := y) (p := q) (by rw [lay_len hp]; exact hq) i, lay_get (l := lay l q y) (x := x) (p := p) (by rw [lay_len hq]; exact hp) i, lay_get hp i, lay_get hq i]
  by_cases h1 : q ≤ i ∧ i < q + y.length
  · rw [if_pos h1, if_neg (show ¬ (p ≤ i ∧ i < p + x.length) by omega), if_pos h1]
  · rw [if_neg h1]
    split
    · rfl
    · rfl
/-- What was laid is read. -/
theorem lay_read {l x : List α} {p : Nat} (h : p + x.length ≤ l.length) : ((lay l p x).drop p).take x.length = x := by
  unfold lay
  rw [List.drop_left' (by rw [List.length_take]; omega), List.take_left' rfl]
theorem lay_other {l x : List α} {p q m : Nat} (h : p + x.length ≤ l.length) (hd : q + m ≤ p ∨ p + x.length ≤ q) : ((lay l p x).drop q).take m = (l.drop q).take m := by
  apply List.ext_getElem?
  intro i
  by_cases hi : i < m
  · rw [List.getElem?_take_of_lt hi, List.getElem?_take_of_lt hi, List.getElem?_drop, List.getElem?_drop, lay_get h, if_neg (by omega)]
  · rw [List.getElem?_take_eq_none (by omega), List.getElem?_take_eq_none (by omega)]
/-- One behind the other. -/
theorem lay_snoc {l x : List α} {p : Nat} (y : α) (h : p + x.length < l.length) : (lay l p x).set (p + x.length) y = lay l p (x ++ [y]) := by
  apply List.ext_getElem?
  intro i
  rw [List.getElem?_set, lay_get (by omega), lay_get (by simp; omega), lay_len (by omega)]
  simp only [List.length_append, List.length_singleton]
  by_cases h1 : p + x.length = i
  · subst h1
    rw [if_pos rfl, if_pos (by omega), if_pos (by omega), List.getElem?_append_right (by omega)]
    simp
  · rw [if_neg h1]
    by_cases h2 : p ≤ i ∧ i < p + x.length
    · rw [if_pos h2, if_pos (by omega), List.getElem?_append_left (by omega)]
    · rw [if_neg h2, if_neg (by omega)]
def lays (l : List α) (ps : List (Nat × List α)) : List α := ps.foldl (fun l p => lay l p.1 p.2) l
theorem lays_nil (l : List α) : lays l [] = l := rfl
theorem lays_snoc (l : List α) (ps : List (Nat × List α)) (p : Nat × List α) : lays l (ps ++ [p]) = lay (lays l ps) p.1 p.2 := by unfold lays; rw [List.foldl_append]; rfl
theorem lays_append (l : List α) (ps qs : List (Nat × List α)) : lays l (ps ++ qs) = lays (lays l ps) qs := by unfold lays; rw [List.foldl_append]
theorem lays_len {l : List α} {ps : List (Nat × List α)} (h : ∀ q ∈ ps, q.1 + q.2.length ≤ l.length) : (lays l ps).length = l.length := by
  induction ps generalizing l with
  | nil => rfl
  | cons p ps ih =>
    have h1 := h p (by simp)
    have : (lay l p.1 p.2).length = l.length := lay_len h1
    show (lays (lay l p.1 p.2) ps).length = _
    rw [ih (fun q hq => by rw [this]; exact h q (by simp [hq])), this]
theorem lays_other {l : List α} {ps : List (Nat × List α)} {q m : Nat} (h : ∀ r ∈ ps, r.1 + r.2.length ≤ l.length) (hd : ∀ r ∈ ps, q + m ≤ r.1 ∨ r.1 + r.2.length ≤ q) : ((lays l ps).drop q).take m = (l.drop q).take m := by
  induction ps generalizing l with
  | nil => rfl
  | cons p ps ih =>
    have h1 := h p (by simp)
    have h2 : (lay l p.1 p.2).length = l.length := lay_len h1
    show ((lays (lay l p.1 p.2) ps).drop q).take m = _
    rw [ih (fun r hr => by rw [h2]; exact h r (by simp [hr])) (fun r hr => hd r (by simp [hr])), lay_other h1 (hd p (by simp))]
end
end Lay
end Go.Proofs.YtjcgdenkmmgmfaaGreatDoor
