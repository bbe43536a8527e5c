/- The checksums of layer 2 as functions on bit vectors. Plain definitions and laws; no program. -/
import Derived.Test.YtpobkgkjfebhgaaNum
namespace Go.Proofs.Ytpobkgkjfebhgaa
namespace Dig

/-- One shift of a state of CRC-32C. -/
def sh32 (s : BitVec 32) : BitVec 32 := s >>> 1 ^^^ (s &&& 1#32) * 2197175160#32
/-- One shift of a state of CRC-16. -/
def sh16 (s : BitVec 16) : BitVec 16 := s <<< 1 ^^^ (s >>> 15) * 35767#16
/-- k shifts. -/
def it {α : Type} (f : α → α) : Nat → α → α
  | 0, x => x
  | k + 1, x => f (it f k x)
def r8 (s : BitVec 32) : BitVec 32 := it sh32 8 s
def l8 (s : BitVec 16) : BitVec 16 := it sh16 8 s
/-- The program's steps. -/
def ps32 (s : BitVec 32) (b : BitVec 8) : BitVec 32 := s >>> 8 ^^^ r8 ((s.setWidth 8 ^^^ b).setWidth 32)
def ps16 (s : BitVec 16) (b : BitVec 8) : BitVec 16 := s <<< 8 ^^^ l8 (((s >>> 8).setWidth 8 ^^^ b).setWidth 16 <<< 8)
/-- The reference's steps. -/
def st32 (s : BitVec 32) (b : BitVec 8) : BitVec 32 := r8 (s ^^^ b.setWidth 32)
def st16 (s : BitVec 16) (b : BitVec 8) : BitVec 16 := l8 (s ^^^ b.setWidth 16 <<< 8)
def up32 (s : BitVec 32) (l : List (BitVec 8)) : BitVec 32 := l.foldl st32 s
def up16 (s : BitVec 16) (l : List (BitVec 8)) : BitVec 16 := l.foldl st16 s
def crc32 (l : List (BitVec 8)) : BitVec 32 := ~~~ up32 (BitVec.allOnes 32) l
def crc16 (l : List (BitVec 8)) : BitVec 16 := up16 0#16 l

theorem mul_bit32 (s : BitVec 32) : (s &&& 1#32) * 2197175160#32 = if s.getLsbD 0 then 2197175160#32 else 0#32 := by
  have : s &&& 1#32 = if s.getLsbD 0 then 1#32 else 0#32 := by
    apply BitVec.eq_of_getLsbD_eq
    intro i hi
    match i with
    | 0 => cases h : s.getLsbD 0 <;> simp_all
    | i + 1 => cases h : s.getLsbD 0 <;> simp
  rw [this]; split <;> simp
theorem sh32_ite (s : BitVec 32) : sh32 s = s >>> 1 ^^^ if s.getLsbD 0 then 2197175160#32 else 0#32 := by
  unfold sh32; rw [mul_bit32]
theorem xor4_32 (c a b : BitVec 32) : a ^^^ c ^^^ (b ^^^ c) = a ^^^ b := by
  rw [show a ^^^ c ^^^ (b ^^^ c) = (a ^^^ b) ^^^ (c ^^^ c) by ac_rfl]; simp
theorem xor4_16 (c a b : BitVec 16) : a ^^^ c ^^^ (b ^^^ c) = a ^^^ b := by
  rw [show a ^^^ c ^^^ (b ^^^ c) = (a ^^^ b) ^^^ (c ^^^ c) by ac_rfl]; simp
theorem sh32_xor (x y : BitVec 32) : sh32 (x ^^^ y) = sh32 x ^^^ sh32 y := by
  rw [sh32_ite, sh32_ite, sh32_ite, BitVec.ushiftRight_xor_distrib]
  simp only [BitVec.getLsbD_xor]
  cases x.getLsbD 0 <;> cases y.getLsbD 0 <;> simp <;> first | ac_rfl | (rw [xor4_32])
theorem mul_bit16 (s : BitVec 16) : (s >>> 15) * 35767#16 = if s.getLsbD 15 then 35767#16 else 0#16 := by
  have : s >>> 15 = if s.getLsbD 15 then 1#16 else 0#16 := by
    apply BitVec.eq_of_getLsbD_eq
    intro i hi
    have hz : ∀ j, s.getLsbD (15 + (j + 1)) = false := fun j => BitVec.getLsbD_of_ge _ _ (by omega)
    match i with
    | 0 => cases h : s.getLsbD 15 <;> simp_all
    | i + 1 => cases h : s.getLsbD 15 <;> simp [hz]
  rw [this]; split <;> simp
theorem sh16_ite (s : BitVec 16) : sh16 s = s <<< 1 ^^^ if s.getLsbD 15 then 35767#16 else 0#16 := by
  unfold sh16; rw [mul_bit16]
theorem sh16_xor (x y : BitVec 16) : sh16 (x ^^^ y) = sh16 x ^^^ sh16 y := by
  rw [sh16_ite, sh16_ite, sh16_ite, BitVec.shiftLeft_xor_distrib]
  simp only [BitVec.getLsbD_xor]
  cases x.getLsbD 15 <;> cases y.getLsbD 15 <;> simp <;> first | ac_rfl | (rw [xor4_16])
theorem it_xor {n : Nat} (f : BitVec n → BitVec n) (hf : ∀ x y, f (x ^^^ y) = f x ^^^ f y) (k : Nat) (x y : BitVec n) : it f k (x ^^^ y) = it f k x ^^^ it f k y := by
  induction k with
  | zero => rfl
  | succ k ih => simp only [it, ih, hf]
theorem r8_xor (x y : BitVec 32) : r8 (x ^^^ y) = r8 x ^^^ r8 y := it_xor _ sh32_xor _ _ _
theorem l8_xor (x y : BitVec 16) : l8 (x ^^^ y) = l8 x ^^^ l8 y := it_xor _ sh16_xor _ _ _
theorem it32_high (s : BitVec 32) (n : Nat) (h : ∀ i, i < n → s.getLsbD i = false) (k : Nat) (hk : k ≤ n) : it sh32 k s = s >>> k := by
  induction k with
  | zero => simp [it]
  | succ k ih =>
    rw [it, ih (by omega), sh32_ite, BitVec.getLsbD_ushiftRight, Nat.add_zero, h k (by omega), ← BitVec.shiftRight_add]
    simp
theorem it16_high (s : BitVec 16) (n : Nat) (_hn : n ≤ 16) (h : ∀ i, i < n → s.getLsbD (15 - i) = false) (k : Nat) (hk : k ≤ n) : it sh16 k s = s <<< k := by
  induction k with
  | zero => simp [it]
  | succ k ih =>
    have hb : (s <<< k).getLsbD 15 = false := by
      rw [BitVec.getLsbD_shiftLeft, h k (by omega)]; simp
    rw [it, ih (by omega), sh16_ite, hb, BitVec.shiftLeft_add]
    simp
theorem ps32_eq (s : BitVec 32) (b : BitVec 8) : ps32 s b = st32 s b := by
  have e : s ^^^ b.setWidth 32 = (s >>> 8 <<< 8) ^^^ (s.setWidth 8 ^^^ b).setWidth 32 := by
    apply BitVec.eq_of_getLsbD_eq
    intro i hi
    simp
    by_cases h : i < 8
    · simp [h, hi]
    · have : b.getLsbD i = false := BitVec.getLsbD_of_ge _ _ (by omega)
      simp [h, hi, this]
      rw [show 8 + (i - 8) = i by omega]; simp [hi]
  unfold ps32 st32
  rw [e, r8_xor]
  congr 1
  rw [r8, it32_high _ 8 _ 8 (by omega)]
  · apply BitVec.eq_of_getLsbD_eq
    intro i hi
    simp
    intro h
    exact (BitVec.lt_of_getLsbD h)
  · intro i hi; simp [hi]
theorem ps16_eq (s : BitVec 16) (b : BitVec 8) : ps16 s b = st16 s b := by
  have e : s ^^^ b.setWidth 16 <<< 8 = (s <<< 8 >>> 8) ^^^ (((s >>> 8).setWidth 8 ^^^ b).setWidth 16 <<< 8) := by
    apply BitVec.eq_of_getLsbD_eq
    intro i hi
    simp
    by_cases h : i < 8
    · simp [h, hi]; omega
    · have h1 : i - 8 < 8 := by omega
      have h2 : i - 8 < 16 := by omega
      have h3 : ¬ (8 + i < 16) := by omega
      have h4 : 8 + (i - 8) = i := by omega
      simp [h, hi, h1, h2, h3, h4]
  unfold ps16 st16
  rw [e, l8_xor]
  congr 1
  rw [l8, it16_high _ 8 (by omega) _ 8 (by omega)]
  · apply BitVec.eq_of_getLsbD_eq
    intro i hi
    simp
    by_cases h : i < 8
    · simp [h]
    · have h3 : 8 + (i - 8) = i := by omega
      simp [h, hi, h3]
  · intro i hi; simp; omega
theorem up32_ps (s : BitVec 32) (l : List (BitVec 8)) : l.foldl ps32 s = up32 s l := by
  unfold up32; congr 1; funext s b; exact ps32_eq s b
theorem up16_ps (s : BitVec 16) (l : List (BitVec 8)) : l.foldl ps16 s = up16 s l := by
  unfold up16; congr 1; funext s b; exact ps16_eq s b
theorem up32_app (s : BitVec 32) (a b : List (BitVec 8)) : up32 s (a ++ b) = up32 (up32 s a) b := by simp [up32]
theorem up16_app (s : BitVec 16) (a b : List (BitVec 8)) : up16 s (a ++ b) = up16 (up16 s a) b := by simp [up16]
end Dig
end Go.Proofs.Ytpobkgkjfebhgaa
