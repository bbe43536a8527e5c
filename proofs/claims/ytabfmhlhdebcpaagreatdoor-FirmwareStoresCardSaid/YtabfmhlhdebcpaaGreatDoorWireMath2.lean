/- Bit fields and padded texts: plain definitions and laws. -/
import Derived.Test.YtabfmhlhdebcpaaGreatDoorWireMath
namespace Go.Proofs.YtabfmhlhdebcpaaGreatDoor
set_option linter.unusedVariables false
set_option linter.unusedSimpArgs false
namespace Wire
def mask (w : Nat) : BitVec 64 := 1#64 <<< w - 1#64
theorem mask_bit (w i : Nat) (hw : w ≤ 64) (hi : i < 64) : (mask w).getLsbD i = decide (i < w) := by
  unfold mask
  by_cases h : w = 64
  · subst h
    have e : 1#64 <<< 64 - 1#64 = BitVec.allOnes 64 := by decide
    rw [e, BitVec.getLsbD_allOnes]
  · have hlt : 2 ^ w < 2 ^ 64 := Nat.pow_lt_pow_right (by omega) (by omega)
    have hpos : 0 < 2 ^ w := Nat.two_pow_pos w
    have e : (1#64 <<< w - 1#64).toNat = 2 ^ w - 1 := by
      have h1 : (1#64).toNat = 1 := rfl
      rw [BitVec.toNat_sub, BitVec.toNat_shiftLeft, Nat.shiftLeft_eq, h1, Nat.one_mul, Nat.mod_eq_of_lt hlt]
      omega
    rw [← BitVec.testBit_toNat, e, Nat.testBit_two_pow_sub_one]
def field (v : BitVec 64) (lo w : Nat) : BitVec 64 := v >>> lo &&& mask w
theorem field_bit (v : BitVec 64) (lo w i : Nat) (hw : w ≤ 64) (hi : i < 64) : (field v lo w).getLsbD i = (decide (i < w) && v.getLsbD (lo + i)) := by
  unfold field
  rw [BitVec.getLsbD_and, BitVec.getLsbD_ushiftRight, mask_bit _ _ hw hi, Bool.and_comm]
theorem one_bit64 (i : Nat) : (1#64).getLsbD i = decide (i = 0) := by
  cases i with
  | zero => rfl
  | succ i => simp
/-- One bit, put at another place. -/
theorem bit_at (v : BitVec 64) (p k i : Nat) (hi : i < 64) : ((v >>> p &&& 1#64) <<< k).getLsbD i = (decide (i = k) && v.getLsbD p) := by
  rw [BitVec.getLsbD_shiftLeft, BitVec.getLsbD_and, BitVec.getLsbD_ushiftRight, one_bit64]
  by_cases h : i < k
  · have : i ≠ k := by omega
    simp [h, this]
  · by_cases e : i = k
    · subst e; simp [hi]
    · have : ¬ (i - k = 0) := by omega
      simp [e, this]
/-- The bit field, bit by bit. -/
def rfield (v : BitVec 64) (lo : Nat) : Nat → BitVec 64
  | 0 => 0#64
  | k + 1 => rfield v lo k ||| (v >>> (lo + k) &&& 1#64) <<< k
theorem rfield_bit (v : BitVec 64) (lo k i : Nat) (hi : i < 64) : (rfield v lo k).getLsbD i = (decide (i < k) && v.getLsbD (lo + i)) := by
  induction k with
  | zero => simp [rfield]
  | succ k ih =>
    rw [rfield, BitVec.getLsbD_or, ih, bit_at _ _ _ _ hi]
    by_cases e : i = k
    · subst e; simp
    · have h1 : (i < k + 1) ↔ (i < k) := by omega
      simp [e, h1]
theorem rfield_eq (v : BitVec 64) (lo w : Nat) (hw : w ≤ 64) : rfield v lo w = field v lo w := by
  apply BitVec.eq_of_getLsbD_eq; intro i hi
  rw [rfield_bit _ _ _ _ hi, field_bit _ _ _ _ hw hi]
theorem high_iff (x : BitVec 64) (w : Nat) (hw : w ≤ 64) : (x &&& ~~~ mask w = 0#64) ↔ (x >>> w = 0#64) := by
  constructor
  · intro h
    apply BitVec.eq_of_getLsbD_eq; intro i hi
    by_cases hwi : w + i < 64
    · have := congrArg (fun y : BitVec 64 => y.getLsbD (w + i)) h
      simp only [BitVec.getLsbD_and, BitVec.getLsbD_not, mask_bit _ _ hw hwi] at this
      rw [BitVec.getLsbD_ushiftRight]
      have hn : ¬ (w + i < w) := by omega
      simpa [hn, hwi] using this
    · rw [BitVec.getLsbD_ushiftRight, BitVec.getLsbD_of_ge _ _ (by omega)]; simp
  · intro h
    apply BitVec.eq_of_getLsbD_eq; intro i hi
    simp only [BitVec.getLsbD_and, BitVec.getLsbD_not, mask_bit _ _ hw hi]
    by_cases hwi : i < w
    · simp [hwi]
    · have := congrArg (fun y : BitVec 64 => y.getLsbD (i - w)) h
      simp only [BitVec.getLsbD_ushiftRight, show w + (i - w) = i by omega] at this
      simp [this]
def ins (v : BitVec 64) (lo w : Nat) (x : BitVec 64) : BitVec 64 := v &&& ~~~ (mask w <<< lo) ||| x <<< lo
theorem ins_bit (v x : BitVec 64) (lo w i : Nat) (hw : lo + w ≤ 64) (hx : x >>> w = 0#64) (hi : i < 64) : (ins v lo w x).getLsbD i = if lo ≤ i ∧ i < lo + w then x.getLsbD (i - lo) else v.getLsbD i := by
  unfold ins
  rw [BitVec.getLsbD_or, BitVec.getLsbD_and, BitVec.getLsbD_not, BitVec.getLsbD_shiftLeft, BitVec.getLsbD_shiftLeft]
  by_cases h1 : i < lo
  · have : ¬ (lo ≤ i ∧ i < lo + w) := by omega
    rw [if_neg this]; simp [h1, hi]
  · rw [mask_bit _ _ (by omega) (by omega)]
    by_cases h2 : i < lo + w
    · rw [if_pos ⟨by omega, h2⟩]
      have : i - lo < w := by omega
      simp [h1, hi, this]
    · rw [if_neg (by omega)]
      have h3 : ¬ (i - lo < w) := by omega
      have h4 := congrArg (fun y : BitVec 64 => y.getLsbD (i - lo - w)) hx
      simp only [BitVec.getLsbD_ushiftRight, show w + (i - lo - w) = i - lo by omega] at h4
      simp [h1, hi, h3, h4]
/-- The bit field replaced, bit by bit. -/
def rins (v x : BitVec 64) (lo w : Nat) : Nat → BitVec 64
  | 0 => 0#64
  | k + 1 => rins v x lo w k ||| (if lo ≤ k ∧ k < lo + w then x >>> (k - lo) &&& 1#64 else v >>> k &&& 1#64) <<< k
theorem rins_bit (v x : BitVec 64) (lo w k i : Nat) (hi : i < 64) : (rins v x lo w k).getLsbD i = (decide (i < k) && if lo ≤ i ∧ i < lo + w then x.getLsbD (i - lo) else v.getLsbD i) := by
  induction k with
  | zero => simp [rins]
  | succ k ih =>
    rw [rins, BitVec.getLsbD_or, ih]
    have h : ((if lo ≤ k ∧ k < lo + w then x >>> (k - lo) &&& 1#64 else v >>> k &&& 1#64) <<< k).getLsbD i = (decide (i = k) && if lo ≤ i ∧ i < lo + w then x.getLsbD (i - lo) else v.getLsbD i) := by
      by_cases e : i = k
      · subst e
        split
        · rw [bit_at _ _ _ _ hi]
        · rw [bit_at _ _ _ _ hi]
      · split
        · rw [bit_at _ _ _ _ hi]; simp [e]
        · rw [bit_at _ _ _ _ hi]; simp [e]
    rw [h]
    by_cases e : i = k
    · subst e; simp
    · have h1 : (i < k + 1) ↔ (i < k) := by omega
      simp [e, h1]
theorem rins_eq (v x : BitVec 64) (lo w : Nat) (hw : lo + w ≤ 64) (hx : x >>> w = 0#64) : rins v x lo w 64 = ins v lo w x := by
  apply BitVec.eq_of_getLsbD_eq; intro i hi
  rw [rins_bit _ _ _ _ _ _ hi, ins_bit _ _ _ _ _ hw hx hi]; simp [hi]
theorem field_ins (v x : BitVec 64) (lo w : Nat) (hw : lo + w ≤ 64) (hx : x >>> w = 0#64) : field (ins v lo w x) lo w = x := by
  apply BitVec.eq_of_getLsbD_eq; intro i hi
  rw [field_bit _ _ _ _ (by omega) hi]
  by_cases h : i < w
  · rw [ins_bit _ _ _ _ _ hw hx (by omega), if_pos (by omega)]; simp [h]
  · have h4 := congrArg (fun y : BitVec 64 => y.getLsbD (i - w)) hx
    simp only [BitVec.getLsbD_ushiftRight, show w + (i - w) = i by omega] at h4
    simp [h, h4]
/-- Whether a bit field is valid. -/
def okField (lo w : Int) : Bool := decide (0 ≤ lo) && decide (lo ≤ 63) && decide (1 ≤ w) && decide (w ≤ 64 - lo)
/-! texts -/
def plainB (x : BitVec 8) : Bool := decide (32 ≤ uv x) && decide (uv x ≤ 126)
def plain (l : List (BitVec 8)) : Bool := l.all plainB
def rstrip (l : List (BitVec 8)) : List (BitVec 8) := (l.reverse.dropWhile (· == 32#8)).reverse
def padE (l : List (BitVec 8)) (n : Int) : Int := if n < 0 ∨ plain l = false then 2 else if (l.length : Int) > n ∨ n > 1048576 then 5 else 0
def pad (l : List (BitVec 8)) (n : Int) : List (BitVec 8) := if padE l n = 0 then l ++ List.replicate (n.toNat - l.length) 32#8 else []
end Wire
end Go.Proofs.YtabfmhlhdebcpaaGreatDoor
