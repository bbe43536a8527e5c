/- Bursts: a change within the width of the checksum changes the checksum. Plain laws on bit vectors. -/
import Derived.Test.YteicmbapipnbjaaDigestMath
namespace Go.Proofs.Yteicmbapipnbjaa
set_option linter.unusedVariables false
set_option linter.unusedSimpArgs false
namespace Dig
theorem sh32_zero (z : BitVec 32) (h : sh32 z = 0#32) : z = 0#32 := by
  rw [sh32_ite] at h
  have h0 : z.getLsbD 0 = false := by
    cases hb : z.getLsbD 0
    · rfl
    · rw [hb] at h
      have := congrArg (fun v : BitVec 32 => v.getLsbD 31) h
      simp at this
  rw [h0] at h
  simp at h
  apply BitVec.eq_of_getLsbD_eq
  intro i hi
  match i with
  | 0 => rw [h0]; simp
  | i + 1 =>
    have := congrArg (fun v : BitVec 32 => v.getLsbD i) h
    simp only [BitVec.getLsbD_ushiftRight] at this
    rw [Nat.add_comm 1 i] at this
    rw [this]; simp
theorem sh32_inj {x y : BitVec 32} (h : sh32 x = sh32 y) : x = y := by
  have := sh32_zero (x ^^^ y) (by rw [sh32_xor, h]; simp)
  rwa [BitVec.xor_eq_zero_iff] at this
theorem sh16_zero (z : BitVec 16) (h : sh16 z = 0#16) : z = 0#16 := by
  rw [sh16_ite] at h
  have h0 : z.getLsbD 15 = false := by
    cases hb : z.getLsbD 15
    · rfl
    · rw [hb] at h
      have := congrArg (fun v : BitVec 16 => v.getLsbD 0) h
      simp at this
  rw [h0] at h
  simp at h
  apply BitVec.eq_of_getLsbD_eq
  intro i hi
  by_cases e : i = 15
  · subst e; rw [h0]; simp
  · have := congrArg (fun v : BitVec 16 => v.getLsbD (i + 1)) h
    simp only [BitVec.getLsbD_shiftLeft] at this
    simp at this
    have h2 := this (by omega)
    simp [BitVec.getLsbD] at h2 ⊢
    simpa using h2
theorem sh16_inj {x y : BitVec 16} (h : sh16 x = sh16 y) : x = y := by
  have := sh16_zero (x ^^^ y) (by rw [sh16_xor, h]; simp)
  rwa [BitVec.xor_eq_zero_iff] at this
theorem it_inj {α : Type} (f : α → α) (hf : ∀ {x y}, f x = f y → x = y) (k : Nat) {x y : α} (h : it f k x = it f k y) : x = y := by
  induction k with
  | zero => exact h
  | succ k ih => exact ih (hf h)
/-- One bit goes in. -/
def bit32 (s : BitVec 32) (c : Bool) : BitVec 32 := sh32 (s ^^^ if c then 1#32 else 0#32)
def bit16 (s : BitVec 16) (c : Bool) : BitVec 16 := sh16 (s ^^^ if c then 32768#16 else 0#16)
theorem bit32_step (s v : BitVec 32) : sh32 (s ^^^ v) = bit32 s (v.getLsbD 0) ^^^ v >>> 1 := by
  unfold bit32
  rw [sh32_xor, sh32_xor, BitVec.xor_assoc]
  congr 1
  rw [sh32_ite v]
  cases h : v.getLsbD 0
  · simp [sh32_ite]
  · simp [sh32_ite, BitVec.xor_comm]
theorem bit16_step (s v : BitVec 16) : sh16 (s ^^^ v) = bit16 s (v.getLsbD 15) ^^^ v <<< 1 := by
  unfold bit16
  rw [sh16_xor, sh16_xor, BitVec.xor_assoc]
  congr 1
  rw [sh16_ite v]
  cases h : v.getLsbD 15
  · simp [sh16_ite]
  · simp [sh16_ite, BitVec.xor_comm]
/-- Many bits go in: the first m of v. -/
theorem bits32 (m : Nat) (s v : BitVec 32) : it sh32 m (s ^^^ v) = ((List.range m).map v.getLsbD).foldl bit32 s ^^^ v >>> m := by
  induction m with
  | zero => simp [it]
  | succ m ih =>
    rw [it, ih, bit32_step, List.range_succ, List.map_append, List.foldl_append, ← BitVec.shiftRight_add]
    simp [BitVec.getLsbD_ushiftRight]
theorem bits16 (m : Nat) (hm : m ≤ 16) (s v : BitVec 16) : it sh16 m (s ^^^ v) = ((List.range m).map fun i => v.getLsbD (15 - i)).foldl bit16 s ^^^ v <<< m := by
  induction m with
  | zero => simp [it]
  | succ m ih =>
    rw [it, ih (by omega), bit16_step, List.range_succ, List.map_append, List.foldl_append, ← BitVec.shiftLeft_add]
    have : (v <<< m).getLsbD 15 = v.getLsbD (15 - m) := by
      rw [BitVec.getLsbD_shiftLeft]; simp; omega
    rw [this]; rfl
theorem bit32_inj {s t : BitVec 32} {c : Bool} (h : bit32 s c = bit32 t c) : s = t := by
  have := sh32_inj h
  exact (BitVec.xor_left_inj _).1 this
theorem bit16_inj {s t : BitVec 16} {c : Bool} (h : bit16 s c = bit16 t c) : s = t := by
  have := sh16_inj h
  exact (BitVec.xor_left_inj _).1 this
theorem fold_ne {σ : Type} (f : σ → Bool → σ) (hf : ∀ {s t c}, f s c = f t c → s = t) (l : List Bool) {s t : σ} (h : s ≠ t) : l.foldl f s ≠ l.foldl f t := by
  induction l generalizing s t with
  | nil => exact h
  | cons c l ih => exact ih (fun e => h (hf e))
/-- The bits of a list of bytes, in the order in which the checksum takes them. -/
def at32 (l : List (BitVec 8)) (p : Nat) : Bool := (l.getD (p / 8) 0#8).getLsbD (p % 8)
def at16 (l : List (BitVec 8)) (p : Nat) : Bool := (l.getD (p / 8) 0#8).getLsbD (7 - p % 8)
theorem range_add (n m : Nat) : List.range (n + m) = List.range n ++ (List.range m).map (n + ·) := List.range_add
theorem up32_bits (l : List (BitVec 8)) (s : BitVec 32) : up32 s l = ((List.range (8 * l.length)).map (at32 l)).foldl bit32 s := by
  induction l generalizing s with
  | nil => rfl
  | cons x l ih =>
    have e1 : up32 s (x :: l) = up32 (st32 s x) l := rfl
    have e2 : st32 s x = ((List.range 8).map fun i => at32 (x :: l) i).foldl bit32 s := by
      have h := bits32 8 s (x.setWidth 32)
      have e : (x.setWidth 32) >>> 8 = 0#32 := by
        apply BitVec.eq_of_getLsbD_eq
        intro i hi
        simp
      rw [e, BitVec.xor_zero] at h
      unfold st32 r8
      rw [h]
      congr 1
    rw [e1, ih, e2, show 8 * (x :: l).length = 8 + 8 * l.length by simp; omega, range_add, List.map_append, List.foldl_append, List.map_map]
    congr 1
    apply List.map_congr_left
    intro i _
    simp [at32, show (8 + i) / 8 = i / 8 + 1 by omega, show (8 + i) % 8 = i % 8 by omega]
theorem up16_bits (l : List (BitVec 8)) (s : BitVec 16) : up16 s l = ((List.range (8 * l.length)).map (at16 l)).foldl bit16 s := by
  induction l generalizing s with
  | nil => rfl
  | cons x l ih =>
    have e1 : up16 s (x :: l) = up16 (st16 s x) l := rfl
    have e2 : st16 s x = ((List.range 8).map fun i => at16 (x :: l) i).foldl bit16 s := by
      have h := bits16 8 (by omega) s (x.setWidth 16 <<< 8)
      have e : (x.setWidth 16 <<< 8) <<< 8 = 0#16 := by
        rw [← BitVec.shiftLeft_add]; exact BitVec.shiftLeft_eq_zero (by omega)
      rw [e, BitVec.xor_zero] at h
      unfold st16 l8
      rw [h]
      congr 1
      apply List.map_congr_left
      intro i hi
      have hi8 : i < 8 := List.mem_range.1 hi
      have h1 : 15 - i - 8 = 7 - i := by omega
      have h2 : ¬ (15 - i < 8) := by omega
      have h3 : 15 - i < 16 := by omega
      have h4 : 7 - i < 16 := by omega
      rw [BitVec.getLsbD_shiftLeft, BitVec.getLsbD_setWidth, h1]
      simp [at16, Nat.div_eq_of_lt hi8, Nat.mod_eq_of_lt hi8, h2, h3, h4]
    rw [e1, ih, e2, show 8 * (x :: l).length = 8 + 8 * l.length by simp; omega, range_add, List.map_append, List.foldl_append, List.map_map]
    congr 1
    apply List.map_congr_left
    intro i _
    simp [at16, show (8 + i) / 8 = i / 8 + 1 by omega, show (8 + i) % 8 = i % 8 by omega]
/-- A number of at most n bits out of a function. -/
def ofBits (n : Nat) (f : Nat → Bool) : BitVec n := (BitVec.ofBoolListLE ((List.range n).map f)).setWidth n
theorem ofBits_get (n : Nat) (f : Nat → Bool) (i : Nat) (h : i < n) : (ofBits n f).getLsbD i = f i := by
  rw [ofBits, BitVec.getLsbD_setWidth, BitVec.getLsbD_ofBoolListLE]
  simp [h]
theorem split3 (n f m : Nat) (h : f + m ≤ n) (g : Nat → Bool) : (List.range n).map g = (List.range f).map g ++ ((List.range m).map fun i => g (f + i)) ++ ((List.range (n - f - m)).map fun i => g (f + m + i)) := by
  obtain ⟨d, rfl⟩ : ∃ d, n = f + m + d := ⟨n - f - m, by omega⟩
  rw [show f + m + d - f - m = d by omega, range_add (f + m) d, List.map_append, range_add f m, List.map_append, List.map_map, List.map_map]
  rfl
theorem burst32 (l x : List (BitVec 8)) (f m : Nat) (hx : x.length = l.length) (hm : m ≤ 32) (hm0 : 0 < m) (hf : f + m ≤ 8 * l.length) (h0 : at32 x f ≠ at32 l f) (hout : ∀ p, p < f ∨ f + m ≤ p → at32 x p = at32 l p) (s : BitVec 32) : up32 s x ≠ up32 s l := by
  rw [up32_bits, up32_bits, hx, split3 _ f m hf, split3 _ f m hf]
  simp only [List.foldl_append]
  have e1 : (List.range f).map (at32 x) = (List.range f).map (at32 l) := List.map_congr_left fun i hi => hout i (.inl (List.mem_range.1 hi))
  have e2 : ((List.range (8 * l.length - f - m)).map fun i => at32 x (f + m + i)) = ((List.range (8 * l.length - f - m)).map fun i => at32 l (f + m + i)) := List.map_congr_left fun i hi => hout _ (.inr (by omega))
  rw [e1, e2]
  generalize ((List.range f).map (at32 l)).foldl bit32 s = s0
  refine fold_ne bit32 bit32_inj _ ?_
  have key : ∀ g : Nat → Bool, ((List.range m).map g).foldl bit32 s0 = it sh32 m (s0 ^^^ ofBits 32 fun i => decide (i < m) && g i) := by
    intro g
    rw [bits32]
    have z : (ofBits 32 fun i => decide (i < m) && g i) >>> m = 0#32 := by
      apply BitVec.eq_of_getLsbD_eq
      intro i hi
      rw [BitVec.getLsbD_ushiftRight]
      by_cases h : m + i < 32
      · rw [ofBits_get _ _ _ h]; simp; intro h; omega
      · rw [BitVec.getLsbD_of_ge _ _ (by omega)]; simp
    rw [z, BitVec.xor_zero]
    congr 1
    apply List.map_congr_left
    intro i hi
    have := List.mem_range.1 hi
    rw [ofBits_get _ _ _ (by omega)]; simp [this]
  rw [key, key]
  intro h
  have h1 := it_inj sh32 sh32_inj m h
  have h2 := (BitVec.xor_right_inj _).1 h1
  have h3 := congrArg (fun v : BitVec 32 => v.getLsbD 0) h2
  simp only [ofBits_get 32 _ 0 (by omega)] at h3
  simp [hm0] at h3
  exact h0 h3
theorem burst16 (l x : List (BitVec 8)) (f m : Nat) (hx : x.length = l.length) (hm : m ≤ 16) (hm0 : 0 < m) (hf : f + m ≤ 8 * l.length) (h0 : at16 x f ≠ at16 l f) (hout : ∀ p, p < f ∨ f + m ≤ p → at16 x p = at16 l p) (s : BitVec 16) : up16 s x ≠ up16 s l := by
  rw [up16_bits, up16_bits, hx, split3 _ f m hf, split3 _ f m hf]
  simp only [List.foldl_append]
  have e1 : (List.range f).map (at16 x) = (List.range f).map (at16 l) := List.map_congr_left fun i hi => hout i (.inl (List.mem_range.1 hi))
  have e2 : ((List.range (8 * l.length - f - m)).map fun i => at16 x (f + m + i)) = ((List.range (8 * l.length - f - m)).map fun i => at16 l (f + m + i)) := List.map_congr_left fun i hi => hout _ (.inr (by omega))
  rw [e1, e2]
  generalize ((List.range f).map (at16 l)).foldl bit16 s = s0
  refine fold_ne bit16 bit16_inj _ ?_
  have key : ∀ g : Nat → Bool, ((List.range m).map g).foldl bit16 s0 = it sh16 m (s0 ^^^ ofBits 16 fun i => decide (15 - i < m) && g (15 - i)) := by
    intro g
    rw [bits16 m hm]
    have z : (ofBits 16 fun i => decide (15 - i < m) && g (15 - i)) <<< m = 0#16 := by
      apply BitVec.eq_of_getLsbD_eq
      intro i hi
      rw [BitVec.getLsbD_shiftLeft]
      by_cases h : i < m
      · simp [h]
      · rw [ofBits_get _ _ _ (by omega)]; simp; omega
    rw [z, BitVec.xor_zero]
    congr 1
    apply List.map_congr_left
    intro i hi
    have := List.mem_range.1 hi
    rw [ofBits_get _ _ _ (by omega)]; simp [show 15 - (15 - i) = i by omega, this]
  rw [key, key]
  intro h
  have h1 := it_inj sh16 sh16_inj m h
  have h2 := (BitVec.xor_right_inj _).1 h1
  have h3 := congrArg (fun v : BitVec 16 => v.getLsbD 15) h2
  simp only [ofBits_get 16 _ 15 (by omega)] at h3
  simp [hm0] at h3
  exact h0 h3
end Dig
end Go.Proofs.Yteicmbapipnbjaa
