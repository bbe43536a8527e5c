/- Plain laws: a change of up to 16 adjacent bits changes the guard, whatever follows. -/
import Derived.Test.YtmccihngbdopdaaProtMath
import Derived.Test.YtmccihngbdopdaaBurstMath
namespace Go.Proofs.Ytmccihngbdopdaa
set_option linter.unusedVariables false
set_option linter.unusedSimpArgs false
namespace Dig
theorem one_bit (t j : Nat) (ht : t < 8) (hj : j < 8) : (1#8 <<< (7 - t)).getLsbD (7 - j) = decide (j = t) := by
  rcases (show t = 0 ∨ t = 1 ∨ t = 2 ∨ t = 3 ∨ t = 4 ∨ t = 5 ∨ t = 6 ∨ t = 7 by omega) with rfl | rfl | rfl | rfl | rfl | rfl | rfl | rfl <;>
  rcases (show j = 0 ∨ j = 1 ∨ j = 2 ∨ j = 3 ∨ j = 4 ∨ j = 5 ∨ j = 6 ∨ j = 7 by omega) with rfl | rfl | rfl | rfl | rfl | rfl | rfl | rfl <;> decide
def xflip (l : List (BitVec 8)) (p : Nat) : List (BitVec 8) := l.set (p / 8) (l.getD (p / 8) 0#8 ^^^ 1#8 <<< (7 - p % 8))
theorem at16_xflip (l : List (BitVec 8)) (p q : Nat) (hp : p < 8 * l.length) : at16 (xflip l p) q = (at16 l q ^^ decide (q = p)) := by
  unfold at16 xflip
  by_cases h : q / 8 = p / 8
  · rw [h, List.getD_eq_getElem?_getD, List.getElem?_set_self (by omega)]
    simp only [Option.getD_some, BitVec.getLsbD_xor, one_bit _ _ (Nat.mod_lt p (by omega)) (Nat.mod_lt q (by omega))]
    congr 1
    have : (q % 8 = p % 8) ↔ q = p := by omega
    simp [this]
  · have e : q ≠ p := fun e => h (by rw [e])
    rw [List.getD_eq_getElem?_getD, List.getElem?_set_ne (by omega), ← List.getD_eq_getElem?_getD]; simp [e]
/-- The bits that are flipped in the first n rounds. -/
def xfl (pat : BitVec 16) (f : Nat) (b : List (BitVec 8)) : Nat → List (BitVec 8)
  | 0 => b
  | i + 1 => if pat.getLsbD (15 - i) then xflip (xfl pat f b i) (f + i) else xfl pat f b i
theorem xfl_len (pat : BitVec 16) (f : Nat) (b : List (BitVec 8)) (n : Nat) : (xfl pat f b n).length = b.length := by
  induction n with
  | zero => rfl
  | succ n ih => unfold xfl; split <;> simp [xflip, ih]
theorem xfl_bit (pat : BitVec 16) (f : Nat) (b : List (BitVec 8)) : ∀ n, f + n ≤ 8 * b.length → ∀ q, at16 (xfl pat f b n) q = (at16 b q ^^ (decide (f ≤ q ∧ q < f + n) && pat.getLsbD (15 - (q - f))))
  | 0, _, q => by
    have : ¬ (f ≤ q ∧ q < f + 0) := by omega
    rw [decide_eq_false this]; simp [xfl]
  | n + 1, h, q => by
    have ih := xfl_bit pat f b n (by omega) q
    unfold xfl
    by_cases hb : pat.getLsbD (15 - n) = true
    · rw [if_pos hb, at16_xflip _ _ _ (by rw [xfl_len]; omega), ih]
      by_cases e : q = f + n
      · subst e
        simp [hb]
      · have h1 : (f ≤ q ∧ q < f + n) ↔ (f ≤ q ∧ q < f + (n + 1)) := by omega
        simp [e, h1]
    · rw [if_neg hb, ih]
      by_cases e : q = f + n
      · subst e
        simp [hb]
      · have h1 : (f ≤ q ∧ q < f + n) ↔ (f ≤ q ∧ q < f + (n + 1)) := by omega
        simp [h1]
theorem first_true (p : Nat → Bool) : ∀ n, (∀ i, i < n → p i = false) ∨ ∃ i, i < n ∧ p i = true ∧ ∀ j, j < i → p j = false
  | 0 => .inl fun i h => absurd h (by omega)
  | n + 1 => by
    rcases first_true p n with h | ⟨i, h1, h2, h3⟩
    · cases e : p n
      · exact .inl fun i hi => by
          by_cases e' : i = n
          · rw [e', e]
          · exact h i (by omega)
      · exact .inr ⟨n, by omega, e, h⟩
    · exact .inr ⟨i, by omega, h2, h3⟩
theorem up16_inj (l : List (BitVec 8)) {s t : BitVec 16} (h : s ≠ t) : up16 s l ≠ up16 t l := by
  rw [up16_bits, up16_bits]
  exact fold_ne bit16 (fun h => bit16_inj h) _ h
theorem xfl_crc (pat : BitVec 16) (f : Nat) (b tl : List (BitVec 8)) (h : f + 16 ≤ 8 * b.length) (hp : pat ≠ 0#16) : crc16 (xfl pat f b 16 ++ tl) ≠ crc16 (b ++ tl) := by
  unfold crc16
  rw [up16_app, up16_app]
  refine up16_inj tl ?_
  rcases first_true (fun i => pat.getLsbD (15 - i)) 16 with hz | ⟨i, hi, h1, h2⟩
  · refine absurd (BitVec.eq_of_getLsbD_eq fun j hj => ?_) hp
    have := hz (15 - j) (by omega)
    simp only [show 15 - (15 - j) = j by omega] at this
    rw [this]; simp
  · refine burst16 b _ (f + i) (16 - i) (xfl_len _ _ _ _) (by omega) (by omega) (by omega) ?_ ?_ 0#16
    · rw [xfl_bit _ _ _ _ h, show f + i - f = i by omega]
      have : f ≤ f + i ∧ f + i < f + 16 := by omega
      simp [this, h1]
    · intro p hp'
      rw [xfl_bit _ _ _ _ h]
      by_cases hin : f ≤ p ∧ p < f + 16
      · have := h2 (p - f) (by omega)
        simp [this]
      · simp [hin]
theorem by8_xflip (l : List (BitVec 8)) (p : Nat) (x : BitVec 8) (h : l[p / 8]? = some x) : (by8 l).set (p / 8) (.int .u8 (uv (x ^^^ 1#8 <<< (7 - p % 8)))) = by8 (xflip l p) := by
  unfold xflip by8
  rw [List.map_set, List.getD_eq_getElem?_getD, h]; rfl
theorem bit_zero16 (pat : BitVec 16) (i : Nat) (h : pat.getLsbD i = false) : uv (pat >>> i &&& 1#16) = 0 := by
  have : pat >>> i &&& 1#16 = 0#16 := by
    apply BitVec.eq_of_getLsbD_eq
    intro j hj
    match j with
    | 0 => simp [h]
    | j + 1 => simp
  rw [this]; rfl
theorem bit_one16 (pat : BitVec 16) (i : Nat) (h : pat.getLsbD i = true) : uv (pat >>> i &&& 1#16) = 1 := by
  have : pat >>> i &&& 1#16 = 1#16 := by
    apply BitVec.eq_of_getLsbD_eq
    intro j hj
    match j with
    | 0 => simp [h]
    | j + 1 => simp
  rw [this]; rfl
end Dig
namespace Prot
variable {ty : Int} {fs : Bool} {l b : List (BitVec 8)}
/-- The metadata with other bytes for the tuple. -/
def put (fs : Bool) (l b : List (BitVec 8)) : List (BitVec 8) := l.take (place fs l.length) ++ b ++ l.drop (place fs l.length + 8)
theorem place_le (hl : 8 ≤ l.length) : place fs l.length + 8 ≤ l.length := by unfold place; split <;> omega
theorem put_len (hb : b.length = 8) (hl : 8 ≤ l.length) : (put fs l b).length = l.length := by
  have := place_le (fs := fs) hl
  simp only [put, List.length_append, List.length_take, List.length_drop, hb]; omega
theorem put_take (hb : b.length = 8) (hl : 8 ≤ l.length) : (put fs l b).take (place fs (put fs l b).length) = l.take (place fs l.length) := by
  have := place_le (fs := fs) hl
  rw [put_len hb hl]
  unfold put
  rw [List.append_assoc, List.take_append_of_le_length (by rw [List.length_take]; omega), List.take_take, Nat.min_self]
theorem put_cut (hb : b.length = 8) (hl : 8 ≤ l.length) : cut fs (put fs l b) = b := by
  have := place_le (fs := fs) hl
  unfold cut
  rw [put_len hb hl]
  unfold put
  have e : (l.take (place fs l.length)).length = place fs l.length := by rw [List.length_take]; omega
  rw [List.append_assoc, List.drop_append, List.drop_of_length_le (by rw [e]; exact Nat.le_refl _), e, Nat.sub_self, List.drop_zero, List.nil_append, List.take_append_of_le_length (by rw [hb]; exact Nat.le_refl _), List.take_of_length_le (by rw [hb]; exact Nat.le_refl _)]
theorem gen_put (h : wr ty fs false l.length = 0) (h0 : ty ≠ 0) (d : List (BitVec 8)) (a : BitVec 16) (r : BitVec 32) : gen ty fs d l a r = put fs l (bytes (guard ty fs d l) a r) := by
  unfold gen put; rw [if_pos h, if_neg h0]
theorem guard_put (h0 : ty ≠ 0) (hb : b.length = 8) (hl : 8 ≤ l.length) (d : List (BitVec 8)) : guard ty fs d (put fs l b) = guard ty fs d l := by
  unfold guard; rw [if_neg h0, if_neg h0, put_take hb hl]
/-- What a check of the guard alone says of generated metadata. -/
theorem chk_put (h : wr ty fs false l.length = 0) (h0 : ty ≠ 0) (hl : 8 ≤ l.length) (d e : List (BitVec 8)) (a : BitVec 16) (r : BitVec 32) (ha : a ≠ 65535#16) :
    chk ty fs e (put fs l (bytes (guard ty fs d l) a r)) true false false 0#16 0#16 0#32 = if guard ty fs d l = guard ty fs e l then 0 else 130 := by
  have h8 := bytes_len (guard ty fs d l) a r
  have hw : wr ty fs false (put fs l (bytes (guard ty fs d l) a r)).length = 0 := by rw [put_len h8 hl]; exact h
  have hes : esc ty a r = false := by
    unfold esc
    have : (uv a == 65535) = false := by
      rw [show (65535 : Int) = uv 65535#16 by decide, uv_beq]
      exact beq_false_of_ne ha
    rw [this]; rfl
  unfold chk
  rw [if_pos hw, if_neg h0, put_cut h8 hl, tg_bytes, ta_bytes, tr_bytes, hes, guard_put h0 h8 hl]
  by_cases e : guard ty fs d l = guard ty fs e l
  · rw [if_pos e, e]; simp [code3]
  · rw [if_neg e]; simp [code3, e]
end Prot
end Go.Proofs.Ytmccihngbdopdaa
