/- The plain law of IdentifyWalks: the list of multiples, what a list above n*d selects, and how actB reads. -/
import Derived.Test.YtccllneifkeimaaRef24D
namespace Go.Proofs.Ytccllneifkeimaa
open Go.RowKit Idn Rise
set_option linter.unusedVariables false
set_option linter.unusedSimpArgs false
namespace Idn
/-- The i-th identifier. -/
def mul1 (d i : Nat) : BitVec 32 := BitVec.ofNat 32 ((i + 1) * d)
def lw (c d : Nat) : List (BitVec 32) := (List.range c).map (mul1 d)
theorem lw_len (c d : Nat) : (lw c d).length = c := by simp [lw]
theorem lw_get (c d i : Nat) (h : i < c) : (lw c d)[i]? = some (mul1 d i) := by simp [lw, h]
theorem uv_ofNat (m : Nat) (h : m < 4294967296) : uv (BitVec.ofNat 32 m) = m := by
  unfold uv; rw [BitVec.toNat_ofNat, Nat.mod_eq_of_lt (by omega)]
theorem mul_small (c d i : Nat) (hc : c ≤ 3000) (hd : d ≤ 1000) (h : i ≤ c) : i * d ≤ 3000000 := by
  calc i * d ≤ 3000 * 1000 := Nat.mul_le_mul (by omega) hd
    _ = 3000000 := rfl
theorem lw_snoc (c d : Nat) : lw (c + 1) d = lw c d ++ [mul1 d c] := by simp [lw, List.range_succ]
theorem lw_ok (c d : Nat) (hc : c ≤ 3000) (hd : d ≤ 1000) (h1 : 1 ≤ d) : OkL (lw c d) := by
  refine ⟨fun t a b ha hb => ?_, fun x h0 => ?_⟩
  · have ht := (List.getElem?_eq_some_iff.1 hb).1
    rw [lw_len] at ht
    rw [lw_get c d t (by omega)] at ha
    rw [lw_get c d (t + 1) ht] at hb
    injection ha with ha; injection hb with hb
    subst ha; subst hb
    have m1 := mul_small c d (t + 1) hc hd (by omega)
    have m2 := mul_small c d (t + 2) hc hd (by omega)
    unfold mul1
    rw [uv_ofNat _ (by omega), uv_ofNat _ (by have : (t + 1 + 1) * d = (t + 2) * d := rfl; omega)]
    have : (t + 1 + 1) * d = (t + 1) * d + d := Nat.succ_mul _ _
    omega
  · have ht := (List.getElem?_eq_some_iff.1 h0).1
    rw [lw_len] at ht
    rw [lw_get c d 0 ht] at h0
    injection h0 with h0
    subst h0
    intro e
    have m1 := mul_small c d 1 hc hd (by omega)
    have := uv_ofNat ((0 + 1) * d) (by omega)
    unfold mul1 at e
    rw [e] at this
    have e0 : uv 0#32 = 0 := rfl
    rw [e0] at this
    omega
theorem above_lw (c d n i : Nat) (hc : c ≤ 3000) (hd : d ≤ 1000) (h1 : 1 ≤ d) (hn : n ≤ c) (hi : i < c) : above (BitVec.ofNat 32 (n * d)) (mul1 d i) = decide (n ≤ i) := by
  have m1 := mul_small c d n hc hd hn
  have m2 := mul_small c d (i + 1) hc hd (by omega)
  unfold above mul1
  rw [uv_ofNat _ (by omega), uv_ofNat _ (by omega)]
  by_cases h : n ≤ i
  · have : n * d + d ≤ (i + 1) * d := by rw [Nat.succ_mul]; exact Nat.add_le_add_right (Nat.mul_le_mul_right d h) d
    rw [decide_eq_true h, decide_eq_true (by omega)]
  · have : (i + 1) * d ≤ n * d := Nat.mul_le_mul_right d (by omega)
    rw [decide_eq_false h, decide_eq_false (by omega)]
/-- What the list above n*d brings: the identifiers from number n on. -/
theorem sel_lw (c d n : Nat) (hc : c ≤ 3000) (hd : d ≤ 1000) (h1 : 1 ≤ d) (hn : n ≤ c) : sel (lw c d) (BitVec.ofNat 32 (n * d)) c = ((lw c d).drop n).take 1024 := by
  unfold sel
  rw [List.take_of_length_le (l := lw c d) (by rw [lw_len]; omega)]
  congr 1
  have h : ∀ (k : Nat), k ≤ c → (lw k d).filter (above (BitVec.ofNat 32 (n * d))) = (lw k d).drop n := by
    intro k
    induction k with
    | zero => intro _; simp [lw]
    | succ k ih =>
      intro hk
      rw [lw_snoc, List.filter_append, ih (by omega)]
      have ha := above_lw c d n k hc hd h1 hn (by omega)
      by_cases h : n ≤ k
      · rw [List.drop_append_of_le_length (by rw [lw_len]; omega)]
        rw [decide_eq_true h] at ha
        simp [ha]
      · rw [decide_eq_false h] at ha
        rw [List.drop_of_length_le (by rw [lw_len]; omega), List.drop_of_length_le (by rw [List.length_append, lw_len]; simp; omega)]
        simp [ha]
  exact h c (Nat.le_refl _)
theorem sel_lw_len (c d n : Nat) : (((lw c d).drop n).take 1024).length = min 1024 (c - n) := by rw [List.length_take, List.length_drop, lw_len]
theorem sel_lw_get (c d n i : Nat) (hi : i < min 1024 (c - n)) : (((lw c d).drop n).take 1024)[i]? = some (mul1 d (n + i)) := by
  rw [List.getElem?_take_of_lt (by omega), List.getElem?_drop, lw_get c d (n + i) (by omega)]
theorem fl_len {α β : Type} {f : α → List β} {k : Nat} (hf : ∀ y, (f y).length = k) (xs : List α) : (xs.flatMap f).length = xs.length * k := by
  induction xs with
  | nil => simp
  | cons x xs ih => rw [List.flatMap_cons, List.length_append, ih, hf, List.length_cons, Nat.succ_mul, Nat.add_comm]
theorem fl_get {α β : Type} {f : α → List β} {k : Nat} (hf : ∀ y, (f y).length = k) (xs : List α) (i j : Nat) (x : α) (h : xs[i]? = some x) (hj : j < k) : (xs.flatMap f)[i * k + j]? = (f x)[j]? := by
  induction xs generalizing i with
  | nil => simp at h
  | cons y xs ih =>
    cases i with
    | zero => simp at h; subst h; rw [List.flatMap_cons, Nat.zero_mul, Nat.zero_add, List.getElem?_append_left (by rw [hf]; exact hj)]
    | succ i =>
      simp at h
      rw [List.flatMap_cons, List.getElem?_append_right (by rw [hf, Nat.succ_mul]; omega), hf, show (i + 1) * k + j - k = i * k + j by rw [Nat.succ_mul]; omega]
      exact ih i h
/-- The bytes of a list of identifiers. -/
theorem places4_bytes (ys : List (BitVec 32)) (h : ys.length ≤ 1024) : Lay.lays zeros (places4 ys) = ys.flatMap (fun y => Wire.le (y.setWidth 64) 4) ++ List.replicate (4096 - 4 * ys.length) 0#8 := by
  have key : ∀ k, k ≤ ys.length → Lay.lays zeros (places4 (ys.take k)) = (ys.take k).flatMap (fun y => Wire.le (y.setWidth 64) 4) ++ List.replicate (4096 - 4 * k) 0#8 := by
    intro k
    induction k with
    | zero => intro _; rw [List.take_zero, show places4 [] = [] from rfl, Lay.lays_nil]; unfold zeros; rfl
    | succ k ih =>
      intro hk
      have hlt : k < ys.length := by omega
      have hl : (ys.take k).length = k := by rw [List.length_take]; omega
      have hfl : ((ys.take k).flatMap (fun y => Wire.le (y.setWidth 64) 4)).length = 4 * k := by rw [fl_len (f := fun y : BitVec 32 => Wire.le (y.setWidth 64) 4) (k := 4) (fun y => Wire.le_len _ 4), hl, Nat.mul_comm]
      rw [List.take_succ_eq_append_getElem hlt, places4_snoc, Lay.lays_snoc, ih (by omega), List.flatMap_append, hl]
      unfold Lay.lay
      rw [List.take_append_of_le_length (by omega), List.take_of_length_le (by omega), Wire.le_len, List.drop_append, hfl, List.drop_of_length_le (by omega), List.nil_append, List.drop_replicate, List.append_assoc]
      simp only [List.flatMap_cons, List.flatMap_nil, List.append_nil]
      congr 3
      omega
  have := key ys.length (Nat.le_refl _)
  rwa [List.take_length] at this
theorem bytes_at (ys : List (BitVec 32)) (h : ys.length ≤ 1024) (i j : Nat) (y : BitVec 32) (hi : ys[i]? = some y) (hj : j < 4) : (Lay.lays zeros (places4 ys))[4 * i + j]? = some (((y.setWidth 64) >>> (8 * j)).setWidth 8) := by
  have hil := (List.getElem?_eq_some_iff.1 hi).1
  rw [places4_bytes ys h, List.getElem?_append_left (by rw [fl_len (f := fun y : BitVec 32 => Wire.le (y.setWidth 64) 4) (k := 4) (fun y => Wire.le_len _ 4)]; omega), Nat.mul_comm, fl_get (f := fun y : BitVec 32 => Wire.le (y.setWidth 64) 4) (k := 4) (fun y => Wire.le_len _ 4) ys i j y hi hj, Wire.le_get _ _ _ hj]
theorem bytes_past (ys : List (BitVec 32)) (h : ys.length ≤ 1024) (i j : Nat) (hi : ys.length ≤ i) (h2 : i < 1024) (hj : j < 4) : (Lay.lays zeros (places4 ys))[4 * i + j]? = some 0#8 := by
  rw [places4_bytes ys h, List.getElem?_append_right (by rw [fl_len (f := fun y : BitVec 32 => Wire.le (y.setWidth 64) 4) (k := 4) (fun y => Wire.le_len _ 4)]; omega), fl_len (f := fun y : BitVec 32 => Wire.le (y.setWidth 64) 4) (k := 4) (fun y => Wire.le_len _ 4), List.getElem?_replicate, if_pos (by omega)]
/-- Four bytes read as a number. -/
def rd4 (a b c d : BitVec 8) : BitVec 32 := ((a.setWidth 32 ||| (b.setWidth 32 <<< 8)) ||| (c.setWidth 32 <<< 16)) ||| (d.setWidth 32 <<< 24)
theorem rd4_le (y : BitVec 32) : rd4 (((y.setWidth 64) >>> (8 * 0)).setWidth 8) (((y.setWidth 64) >>> (8 * 1)).setWidth 8) (((y.setWidth 64) >>> (8 * 2)).setWidth 8) (((y.setWidth 64) >>> (8 * 3)).setWidth 8) = y := by
  unfold rd4
  apply BitVec.eq_of_getLsbD_eq
  intro i hi
  simp only [BitVec.getLsbD_or, BitVec.getLsbD_shiftLeft, BitVec.getLsbD_setWidth, BitVec.getLsbD_ushiftRight]
  rcases (show i < 8 ∨ (8 ≤ i ∧ i < 16) ∨ (16 ≤ i ∧ i < 24) ∨ 24 ≤ i by omega) with h | h | h | h
  · simp [h, hi, show i < 16 by omega, show i < 24 by omega, show i < 64 by omega]
  · simp [hi, show ¬ i < 8 by omega, show i < 16 by omega, show i < 24 by omega, show i - 8 < 8 by omega, show i - 8 < 32 by omega, show 8 + (i - 8) = i by omega, show i < 64 by omega]
  · simp [hi, show ¬ i < 8 by omega, show ¬ i < 16 by omega, show i < 24 by omega, show ¬ i - 8 < 8 by omega, show i - 16 < 8 by omega, show i - 16 < 32 by omega, show 16 + (i - 16) = i by omega, show i < 64 by omega]
  · simp [hi, show ¬ i < 8 by omega, show ¬ i < 16 by omega, show ¬ i < 24 by omega, show ¬ i - 8 < 8 by omega, show ¬ i - 16 < 8 by omega, show i - 24 < 8 by omega, show i - 24 < 32 by omega, show 24 + (i - 24) = i by omega, show i < 64 by omega]
end Idn
end Go.Proofs.Ytccllneifkeimaa
