/- Pages whose last bytes are erased, and pages with four changed bytes, in plain lists. -/
import Derived.Test.YteicmbapipnbjaaSpareMath
import Derived.Test.YteicmbapipnbjaaBurstMath
import Derived.Test.YteicmbapipnbjaaSpareD
namespace Go.Proofs.Yteicmbapipnbjaa
open Go.RowKit
set_option linter.unusedVariables false
set_option linter.unusedSimpArgs false
namespace Dig
theorem r8_step (s v : BitVec 32) : r8 (s ^^^ v) = st32 s (v.setWidth 8) ^^^ (v >>> 8) := by
  have e : s ^^^ v = (s ^^^ (v.setWidth 8).setWidth 32) ^^^ (v >>> 8 <<< 8) := by
    rw [BitVec.xor_assoc]
    congr 1
    apply BitVec.eq_of_getLsbD_eq
    intro i hi
    simp
    by_cases h : i < 8
    · simp [h, hi]
    · simp [h, hi]
      rw [show 8 + (i - 8) = i by omega]; simp [hi]
  rw [e, r8_xor]
  unfold st32
  congr 1
  rw [r8, it32_high _ 8 _ 8 (by omega)]
  · apply BitVec.eq_of_getLsbD_eq
    intro i hi
    simp
    intro h
    exact (BitVec.lt_of_getLsbD h)
  · intro i hi; simp [hi]
theorem up32_le (s v : BitVec 32) : up32 s [v.setWidth 8, (v >>> 8).setWidth 8, (v >>> 16).setWidth 8, (v >>> 24).setWidth 8] = r8 (r8 (r8 (r8 (s ^^^ v)))) := by
  simp only [up32, List.foldl]
  rw [r8_step s v, r8_step _ (v >>> 8), ← BitVec.shiftRight_add, r8_step _ (v >>> (8 + 8)), ← BitVec.shiftRight_add, r8_step _ (v >>> (8 + 8 + 8)), ← BitVec.shiftRight_add]
  rw [show v >>> (8 + 8 + 8 + 8) = 0#32 from BitVec.ushiftRight_eq_zero (by omega), BitVec.xor_zero]
theorem residue32 (l : List (BitVec 8)) : crc32 (l ++ [(crc32 l).setWidth 8, (crc32 l >>> 8).setWidth 8, (crc32 l >>> 16).setWidth 8, (crc32 l >>> 24).setWidth 8]) = 1214729159#32 := by
  rw [crc32, up32_app, up32_le]
  have e : up32 (BitVec.allOnes 32) l ^^^ crc32 l = BitVec.allOnes 32 := by
    unfold crc32
    rw [← BitVec.xor_allOnes, ← BitVec.xor_assoc, BitVec.xor_self, BitVec.zero_xor]
  rw [e]
  decide +kernel
end Dig
namespace Sp
theorem lay_push (l : List (BitVec 8)) (p : Nat) (m : List (BitVec 8)) (x : BitVec 8) (h : p + m.length < l.length) : (lay l p m).set (p + m.length) x = lay l p (m ++ [x]) := by
  have e : l.drop (p + m.length) = l[p + m.length] :: l.drop (p + m.length + 1) := List.drop_eq_getElem_cons h
  unfold lay
  rw [e, List.set_append_right _ _ (by simp; omega)]
  have e2 : p + m.length - (l.take p ++ m).length = 0 := by simp; omega
  rw [e2]
  simp [List.append_assoc, Nat.add_assoc]
theorem lay_get_in (l : List (BitVec 8)) (p : Nat) (m : List (BitVec 8)) (h : p + m.length ≤ l.length) (j : Nat) (hj : j < m.length) : (lay l p m)[p + j]? = m[j]? := by
  unfold lay
  rw [List.append_assoc, List.getElem?_append_right (by simp; omega), List.getElem?_append_left (by simp; omega)]
  congr 1
  simp; omega
theorem lay_get_out (l : List (BitVec 8)) (p : Nat) (m : List (BitVec 8)) (h : p + m.length ≤ l.length) (j : Nat) (hj : j < p ∨ p + m.length ≤ j) : (lay l p m)[j]? = l[j]? := by
  unfold lay
  rcases hj with hj | hj
  · rw [List.append_assoc, List.getElem?_append_left (by simp; omega), List.getElem?_take_of_lt hj]
  · rw [List.getElem?_append_right (by simp; omega), List.getElem?_drop]
    congr 1
    simp; omega
/-- A page whose bytes from K on are FF. -/
def torn (A : List (BitVec 8)) (K : Nat) : List (BitVec 8) := lay A K (List.replicate (A.length - K) 255#8)
theorem torn_len (A : List (BitVec 8)) (K : Nat) (h : K ≤ A.length) : (torn A K).length = A.length := lay_len _ _ _ (by simp; omega)
theorem torn_low (A : List (BitVec 8)) (K : Nat) (h : K ≤ A.length) (n : Nat) (hn : n ≤ K) : (torn A K).take n = A.take n := by
  unfold torn lay
  rw [List.append_assoc, List.take_append_of_le_length (by simp; omega), List.take_take, Nat.min_eq_left hn]
theorem torn_high (A : List (BitVec 8)) (K : Nat) (h : K ≤ A.length) (j : Nat) (hj : K ≤ j) (hl : j < A.length) : (torn A K)[j]? = some 255#8 := by
  unfold torn
  have := lay_get_in A K (List.replicate (A.length - K) 255#8) (by simp; omega) (j - K) (by simp; omega)
  rw [show K + (j - K) = j by omega] at this
  rw [this, List.getElem?_replicate, if_pos (by omega)]
theorem torn_law {k : BitVec 8} {s : Int} {q p : BitVec 64} {i n : Int} (l : List (BitVec 8)) (hv : valid k s q p i n = true) (K : Nat) (hK : K ≤ l.length + 64) (T : List (BitVec 8)) (hT : torn (l ++ enc k s q p i n l) K = T) :
    (err (T.take l.length) (T.drop l.length) == 0) = ((T.take l.length == l) && (T.drop l.length == enc k s q p i n l)) := by
  have hE := enc_len k s q p i n l
  have hes := enc_sum k s q p i n l
  obtain ⟨E, hEE⟩ : ∃ E, enc k s q p i n l = E := ⟨_, rfl⟩
  have he0 : err l E = 0 := by rw [← hEE]; exact err_enc l hv
  rw [hEE] at hE hes hT ⊢
  have hA : (l ++ E).length = l.length + 64 := by simp [hE]
  have hTl : T.length = l.length + 64 := by rw [← hT, torn_len _ _ (by omega), hA]
  rw [Bool.eq_iff_iff]
  simp only [Bool.and_eq_true, beq_iff_eq]
  constructor
  · intro h0
    by_cases h60 : l.length + 60 ≤ K
    · have h1 : T.take l.length = l := by
        rw [← hT, torn_low _ _ (by omega) _ (by omega), List.take_append_of_le_length (by omega), List.take_length]
      refine ⟨h1, ?_⟩
      rw [h1] at h0
      have h2 : (T.drop l.length).take 60 = E.take 60 := by
        have : T.take (l.length + 60) = (l ++ E).take (l.length + 60) := by rw [← hT, torn_low _ _ (by omega) _ (by omega)]
        have h3 := congrArg (List.drop l.length) this
        rw [List.drop_take, List.drop_take, List.drop_left] at h3
        rw [show l.length + 60 - l.length = 60 by omega] at h3
        exact h3
      have hB : (T.drop l.length).length = 64 := by simp; omega
      obtain ⟨B, hBB⟩ : ∃ B, T.drop l.length = B := ⟨_, rfl⟩
      rw [hBB] at h0 h2 hB ⊢
      have hs : Wire.get (B.drop 60) = sumOf l B := by
        unfold err at h0
        rw [if_pos hB] at h0
        by_cases h : Wire.get (B.drop 60) = sumOf l B
        · exact h
        · rw [if_neg h] at h0; omega
      have hs2 : sumOf l B = sumOf l E := by unfold sumOf; rw [h2]
      have h4 : B.drop 60 = E.drop 60 := by
        rw [← le_take (B.drop 60) 4 (by simp; omega) (by omega), ← le_take (E.drop 60) 4 (by simp; omega) (by omega), hs, hs2, hes]
      rw [← List.take_append_drop 60 B, h2, h4, List.take_append_drop]
    · exfalso
      have hg : good (T.drop l.length) = true := by
        unfold err at h0
        rw [if_pos (by simp; omega)] at h0
        split at h0
        · cases hh : good (T.drop l.length)
          · rw [hh] at h0; simp at h0
          · rfl
        · omega
      unfold good at hg
      simp only [Bool.and_eq_true, Bool.not_eq_true'] at hg
      have hz := hg.1.2
      unfold nz24 at hz
      have hx : (((T.drop l.length).drop 36).take 24)[23]? = some 255#8 := by
        rw [List.getElem?_take_of_lt (by omega), List.getElem?_drop, List.getElem?_drop, ← hT]
        exact torn_high _ _ (by omega) _ (by omega) (by omega)
      have := any_hit nonzero _ 23 _ hx (by decide)
      rw [this] at hz
      exact Bool.noConfusion hz
  · rintro ⟨h1, h2⟩
    rw [h1, h2]; exact he0
theorem first_ex (P : Nat → Prop) : ∀ n, P n → ∃ f, f ≤ n ∧ P f ∧ ∀ q, q < f → ¬ P q := by
  intro n
  induction n using Nat.strongRecOn with
  | ind n ih =>
    intro h
    by_cases hq : ∃ m, m < n ∧ P m
    · obtain ⟨m, hm, hp⟩ := hq
      obtain ⟨f, h1, h2, h3⟩ := ih m hm hp
      exact ⟨f, by omega, h2, h3⟩
    · exact ⟨n, Nat.le_refl _, h, fun q hlt hp => hq ⟨q, hlt, hp⟩⟩
theorem le4 (c : BitVec 32) : Wire.le (c.setWidth 64) 4 = [c.setWidth 8, (c >>> 8).setWidth 8, (c >>> 16).setWidth 8, (c >>> 24).setWidth 8] := by
  have h : ∀ k, k < 4 → ((c.setWidth 64) >>> (8 * k)).setWidth 8 = (c >>> (8 * k)).setWidth 8 := by
    intro k hk
    apply BitVec.eq_of_getLsbD_eq
    intro i hi
    have h1 : 8 * k + i < 64 := by omega
    simp [h1]
  unfold Wire.le
  simp only [List.range_succ, List.range_zero, List.map_append, List.map_nil, List.map_cons, List.nil_append, List.cons_append]
  rw [h 0 (by omega), h 1 (by omega), h 2 (by omega), h 3 (by omega)]
  simp
/-- Bytes with their checksum behind them have a fixed checksum. -/
theorem code_fixed (M S : List (BitVec 8)) (hS : S.length = 4) (h : Wire.get S = (Dig.crc32 M).setWidth 64) : Dig.crc32 (M ++ S) = 1214729159#32 := by
  have : S = Wire.le ((Dig.crc32 M).setWidth 64) 4 := by rw [← h]; exact (le_take S 4 hS (by omega)).symm
  rw [this, le4]
  exact Dig.residue32 M
theorem code_burst (A m : List (BitVec 8)) (at_ : Nat) (hm : m.length = 4) (h : at_ + 4 ≤ A.length) (hne : lay A at_ m ≠ A) : Dig.crc32 (lay A at_ m) ≠ Dig.crc32 A := by
  have hl := lay_len A at_ m (by omega)
  obtain ⟨j, hj⟩ : ∃ j, (lay A at_ m)[j]? ≠ A[j]? := by
    refine Classical.byContradiction fun hh => hne ?_
    exact List.ext_getElem? fun j => Classical.byContradiction fun h2 => hh ⟨j, h2⟩
  have hj1 : at_ ≤ j ∧ j < at_ + 4 := by
    refine Classical.byContradiction fun hh => hj (lay_get_out A at_ m (by omega) j (by omega))
  obtain ⟨b, hb8, hb⟩ : ∃ b, b < 8 ∧ Dig.at32 (lay A at_ m) (8 * j + b) ≠ Dig.at32 A (8 * j + b) := by
    refine Classical.byContradiction fun hh => hj ?_
    have e1 : (lay A at_ m)[j]? = some ((lay A at_ m).getD j 0#8) := by
      rw [List.getD_eq_getElem?_getD, List.getElem?_eq_getElem (by omega)]; rfl
    have e2 : A[j]? = some (A.getD j 0#8) := by
      rw [List.getD_eq_getElem?_getD, List.getElem?_eq_getElem (by omega)]; rfl
    rw [e1, e2]
    congr 1
    apply BitVec.eq_of_getLsbD_eq
    intro i hi
    refine Classical.byContradiction fun h2 => hh ⟨i, hi, ?_⟩
    unfold Dig.at32
    rw [show (8 * j + i) / 8 = j by omega, show (8 * j + i) % 8 = i by omega]
    exact h2
  obtain ⟨f, hf1, hf2, hf3⟩ := first_ex (fun q => Dig.at32 (lay A at_ m) q ≠ Dig.at32 A q) _ hb
  have out : ∀ q, q < 8 * at_ ∨ 8 * at_ + 32 ≤ q → Dig.at32 (lay A at_ m) q = Dig.at32 A q := by
    intro q hq
    unfold Dig.at32
    rw [List.getD_eq_getElem?_getD, List.getD_eq_getElem?_getD, lay_get_out A at_ m (by omega) (q / 8) (by omega)]
  have hf4 : 8 * at_ ≤ f := by
    refine Classical.byContradiction fun hh => hf2 (out f (by omega))
  intro hc
  refine Dig.burst32 A (lay A at_ m) f (8 * at_ + 32 - f) hl (by omega) (by omega) (by omega) hf2 ?_ (BitVec.allOnes 32) ?_
  · intro q hq
    rcases hq with hq | hq
    · exact Classical.byContradiction fun h2 => hf3 q hq h2
    · exact out q (by omega)
  · unfold Dig.crc32 at hc
    have := congrArg (fun x => ~~~ x) hc
    simpa using this
/-- A page with four changed bytes is not accepted. -/
theorem change_law {k : BitVec 8} {s : Int} {q p : BitVec 64} {i n : Int} (l : List (BitVec 8)) (at_ : Nat) (hat : at_ ≤ l.length + 60) (m : List (BitVec 8)) (hm : m.length = 4) (X : List (BitVec 8)) (hX : lay (l ++ enc k s q p i n l) at_ m = X) (hne : X ≠ l ++ enc k s q p i n l) :
    err (X.take l.length) (X.drop l.length) = 10 := by
  have hE := enc_len k s q p i n l
  have hes := enc_sum k s q p i n l
  obtain ⟨E, hEE⟩ : ∃ E, enc k s q p i n l = E := ⟨_, rfl⟩
  rw [hEE] at hE hes hX hne
  have hA : (l ++ E).length = l.length + 64 := by simp [hE]
  have hXl : X.length = l.length + 64 := by rw [← hX, lay_len _ _ _ (by omega), hA]
  have hB : (X.drop l.length).length = 64 := by simp; omega
  unfold err
  rw [if_pos hB]
  by_cases h : Wire.get ((X.drop l.length).drop 60) = sumOf (X.take l.length) (X.drop l.length)
  · exfalso
    have c1 := code_fixed (X.take l.length ++ (X.drop l.length).take 60) ((X.drop l.length).drop 60) (by simp; omega) h
    rw [List.append_assoc, List.take_append_drop, List.take_append_drop] at c1
    have c2 := code_fixed (l ++ E.take 60) (E.drop 60) (by simp; omega) hes
    rw [List.append_assoc, List.take_append_drop] at c2
    have := code_burst (l ++ E) m at_ hm (by omega) (by rw [hX]; exact hne)
    rw [hX] at this
    exact this (c1.trans c2.symm)
  · rw [if_neg h]
end Sp
end Go.Proofs.Yteicmbapipnbjaa
