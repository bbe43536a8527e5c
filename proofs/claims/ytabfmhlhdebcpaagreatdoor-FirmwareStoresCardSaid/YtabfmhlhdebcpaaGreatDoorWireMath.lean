/- Little-endian fields as functions on bit vectors. Plain definitions and laws. -/
import Derived.Test.YtabfmhlhdebcpaaGreatDoorNum
namespace Go.Proofs.YtabfmhlhdebcpaaGreatDoor
set_option linter.unusedVariables false
set_option linter.unusedSimpArgs false
namespace Wire
/-- The bytes of a field. -/
def le (v : BitVec 64) (n : Nat) : List (BitVec 8) := (List.range n).map fun i => (v >>> (8 * i)).setWidth 8
theorem le_len (v : BitVec 64) (n : Nat) : (le v n).length = n := by simp [le]
theorem le_get (v : BitVec 64) (n i : Nat) (h : i < n) : (le v n)[i]? = some ((v >>> (8 * i)).setWidth 8) := by simp [le, h]
/-- The value of the first k bytes. -/
def acc (l : List (BitVec 8)) : Nat → BitVec 64
  | 0 => 0#64
  | k + 1 => acc l k ||| (l.getD k 0#8).setWidth 64 <<< (8 * k)
def get (l : List (BitVec 8)) : BitVec 64 := acc l l.length
theorem acc_step (l : List (BitVec 8)) (k : Nat) (x : BitVec 8) (h : l[k]? = some x) : acc l (k + 1) = acc l k ||| x.setWidth 64 <<< (8 * k) := by
  rw [acc, List.getD_eq_getElem?_getD, h]; rfl
theorem acc_bit (l : List (BitVec 8)) (k i : Nat) (hi : i < 64) : (acc l k).getLsbD i = (decide (i < 8 * k) && (l.getD (i / 8) 0#8).getLsbD (i % 8)) := by
  induction k with
  | zero => simp [acc]
  | succ k ih =>
    rw [acc, BitVec.getLsbD_or, ih, BitVec.getLsbD_shiftLeft, BitVec.getLsbD_setWidth]
    by_cases h1 : i < 8 * k
    · have h2 : i < 8 * (k + 1) := by omega
      simp [h1, h2]
    · by_cases h2 : i < 8 * (k + 1)
      · have e1 : i / 8 = k := by omega
        have e2 : i - 8 * k = i % 8 := by omega
        have h3 : i % 8 < 64 := by omega
        simp [h1, h2, hi, e1, e2, h3]
      · have : (l.getD k 0#8).getLsbD (i - 8 * k) = false := BitVec.getLsbD_of_ge _ _ (by omega)
        rw [this]; simp [h1, h2]
theorem get_bit (l : List (BitVec 8)) (i : Nat) (hi : i < 64) : (get l).getLsbD i = (decide (i < 8 * l.length) && (l.getD (i / 8) 0#8).getLsbD (i % 8)) := acc_bit l _ i hi
theorem get_le (v : BitVec 64) (n : Nat) (hn : n ≤ 8) (h : n < 8 → v >>> (8 * n) = 0#64) : get (le v n) = v := by
  apply BitVec.eq_of_getLsbD_eq
  intro i hi
  rw [get_bit _ _ hi, le_len]
  by_cases h1 : i < 8 * n
  · have h2 : i / 8 < n := by omega
    rw [List.getD_eq_getElem?_getD, le_get _ _ _ h2]
    have h3 : i % 8 < 8 := by omega
    simp [h1, h3, show 8 * (i / 8) + i % 8 = i by omega]
  · have hn8 : n < 8 := by omega
    have := congrArg (fun x : BitVec 64 => x.getLsbD (i - 8 * n)) (h hn8)
    simp only [BitVec.getLsbD_ushiftRight] at this
    rw [show 8 * n + (i - 8 * n) = i by omega] at this
    rw [this]; simp [h1]
theorem le_getv (l : List (BitVec 8)) (h : l.length ≤ 8) : le (get l) l.length = l := by
  apply List.ext_getElem?
  intro i
  by_cases hi : i < l.length
  · rw [le_get _ _ _ hi, List.getElem?_eq_getElem hi]
    congr 1
    apply BitVec.eq_of_getLsbD_eq
    intro j hj
    rw [BitVec.getLsbD_setWidth, BitVec.getLsbD_ushiftRight, get_bit _ _ (by omega), List.getD_eq_getElem?_getD, show (8 * i + j) / 8 = i by omega, show (8 * i + j) % 8 = j by omega, List.getElem?_eq_getElem hi]
    have : 8 * i + j < 8 * l.length := by omega
    simp [hj, this]
  · rw [List.getElem?_eq_none (by rw [le_len]; omega), List.getElem?_eq_none (by omega)]
theorem get_high (l : List (BitVec 8)) (h : l.length < 8) : get l >>> (8 * l.length) = 0#64 := by
  apply BitVec.eq_of_getLsbD_eq
  intro i hi
  rw [BitVec.getLsbD_ushiftRight]
  by_cases h1 : 8 * l.length + i < 64
  · rw [get_bit _ _ h1, decide_eq_false (by omega)]; simp
  · rw [BitVec.getLsbD_of_ge _ _ (by omega)]; simp
end Wire
end Go.Proofs.YtabfmhlhdebcpaaGreatDoor
