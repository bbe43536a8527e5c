/- Merged: LogU, LogEf, LogEd, LogEr, Spoil3. -/
import Derived.Test.YthnnopjakpjoeaaDoorLogB
import Derived.Test.YthnnopjakpjoeaaDoorLogR
import Derived.Test.YthnnopjakpjoeaaDoorConcat
import Derived.Test.YthnnopjakpjoeaaDoorFirm
import Derived.Test.YthnnopjakpjoeaaDoorLogN
import Derived.Test.YthnnopjakpjoeaaDoorRows2
import Derived.Deep.MidRow
import Derived.Test.YthnnopjakpjoeaaDoorApp
import Derived.Test.YthnnopjakpjoeaaDoorRef01
import Derived.Test.YthnnopjakpjoeaaDoorOpenG
import Derived.Test.YthnnopjakpjoeaaDoorChg
import Derived.Deep.DeepCutAuto
import Derived.Lib.AppendZeros
import Derived.Lib.AppendZerosOnto
namespace Go.Proofs.YthnnopjakpjoeaaDoor
open Go.RowKit Lg
set_option linter.unusedVariables false
set_option linter.unusedSimpArgs false
theorem below_getU {w w' : World} {b o : Nat} {v : Value} (h : Below w.heap.size w w') (hc : w.cell? ⟨b, o, none⟩ = some v) : w'.cell? ⟨b, o, none⟩ = some v := (Chg.of_below (B := fun _ => False) h).cell hc id
theorem SliceV.nil0 {α : Type} {f : α → List Value} (w : World) : SliceV w f (.slice none 0 0) [] := ⟨none, 0, rfl, fun _ => rfl, by simp, by simp, .inl rfl⟩
theorem SliceV.of_wd {w : World} {base : Nat} {e : TypeId} {v : Value} {l : List (BitVec 64)} (h : w.ownsRow base e 1 v l.length (wd l)) : SliceV w (fun y : BitVec 64 => [Value.int .u64 (uv y)]) v l := by
  obtain ⟨h1, h2⟩ := h
  rcases h2 with ⟨e1, e2⟩ | ⟨g, cap, cur, hv, hg, hh, r1, r2, r3, r4⟩
  · have : l = [] := List.length_eq_zero_iff.1 e2
    subst this; subst e1; exact SliceV.nil0 w
  · subst hv
    exact ⟨_, cap, rfl, (by simp), r1, r2, by rw [flat1]; exact Row.of_own ⟨h1, .inr ⟨g, cap, cur, rfl, hg, hh, r1, r2, r3, r4⟩⟩⟩
theorem SliceV.of_w32 {w : World} {base : Nat} {e : TypeId} {v : Value} {l : List (BitVec 32)} (h : w.ownsRow base e 1 v l.length (l.map fun y => Value.int .u32 (uv y))) : SliceV w (fun y : BitVec 32 => [Value.int .u32 (uv y)]) v l := by
  obtain ⟨h1, h2⟩ := h
  rcases h2 with ⟨e1, e2⟩ | ⟨g, cap, cur, hv, hg, hh, r1, r2, r3, r4⟩
  · have : l = [] := List.length_eq_zero_iff.1 e2
    subst this; subst e1; exact SliceV.nil0 w
  · subst hv
    exact ⟨_, cap, rfl, (by simp), r1, r2, by rw [flat1]; exact Row.of_own ⟨h1, .inr ⟨g, cap, cur, rfl, hg, hh, r1, r2, r3, r4⟩⟩⟩
namespace Lg
theorem risB_snoc {n : Nat} (a : BitVec n) (l : List (BitVec n)) (x : BitVec n) : risB a (l ++ [x]) = (risB a l && decide (uv (l.getLastD a) < uv x)) := by
  induction l generalizing a with
  | nil => rw [List.nil_append]; unfold risB risB; rw [Bool.and_true, Bool.true_and]; rfl
  | cons y l ih =>
    have e : ∀ m : List (BitVec n), risB a (y :: m) = (decide (uv a < uv y) && risB y m) := fun m => rfl
    rw [List.cons_append, e, e, ih, Bool.and_assoc, List.getLastD_cons]
theorem risB_take {n : Nat} (a : BitVec n) (l : List (BitVec n)) (k : Nat) (x p : BitVec n) (hx : l[k]? = some x) (hp : (if k = 0 then some a else l[k - 1]?) = some p) : risB a (l.take (k + 1)) = (risB a (l.take k) && decide (uv p < uv x)) := by
  obtain ⟨hk, rfl⟩ := List.getElem?_eq_some_iff.1 hx
  rw [List.take_succ_eq_append_getElem hk, risB_snoc]
  have e : (l.take k).getLastD a = p := by
    cases k with
    | zero => rw [if_pos rfl] at hp; injection hp
    | succ k =>
      rw [if_neg (by omega), Nat.add_sub_cancel] at hp
      rw [List.getLastD_eq_getLast?, List.getLast?_eq_getElem?, List.length_take, Nat.min_eq_left (by omega), Nat.add_sub_cancel, List.getElem?_take_of_lt (by omega), hp]
      rfl
  rw [e]
theorem risB_false {n : Nat} (a : BitVec n) (l : List (BitVec n)) (k : Nat) (h : risB a (l.take k) = false) : risB a l = false := by
  induction l generalizing a k with
  | nil => rw [List.take_nil] at h; exact h
  | cons y l ih =>
    cases k with
    | zero => exact absurd h (by unfold risB; simp)
    | succ k =>
      rw [List.take_succ_cons] at h
      unfold risB at h ⊢
      cases hd : decide (uv a < uv y)
      · rfl
      · rw [hd, Bool.true_and] at h
        rw [Bool.true_and]; exact ih y k h
theorem zoRis_one (l : List (BitVec 64)) : zoRis (l.take 0) = true ∧ zoRis (l.take 1) = true := by
  cases l <;> exact ⟨rfl, rfl⟩
theorem zoRis_take (l : List (BitVec 64)) (k : Nat) (x p : BitVec 64) (hx : l[k + 1]? = some x) (hp : l[k]? = some p) : zoRis (l.take (k + 2)) = (zoRis (l.take (k + 1)) && decide (uv p < uv x)) := by
  cases l with
  | nil => exact absurd hx (by simp)
  | cons y l =>
    rw [List.getElem?_cons_succ] at hx
    show risB y (l.take (k + 1)) = (risB y (l.take k) && _)
    refine risB_take y l k x p hx ?_
    cases k with
    | zero => rw [if_pos rfl]; exact hp
    | succ k => rw [if_neg (by omega)]; exact hp
theorem zoRis_false (l : List (BitVec 64)) (k : Nat) (h : zoRis (l.take k) = false) : zoRis l = false := by
  cases l with
  | nil => rw [List.take_nil] at h; exact h
  | cons y l =>
    cases k with
    | zero => exact absurd h (by rw [List.take_zero]; unfold zoRis; simp)
    | succ k => exact risB_false y l k h
theorem get_consN (x : BitVec 8) (r : List (BitVec 8)) (h : r.length ≤ 7) : (Wire.get (x :: r)).toNat = x.toNat + 256 * (Wire.get r).toNat := by
  have hr : (Wire.get r).toNat < 2 ^ 56 := by
    have h1 := congrArg BitVec.toNat (Wire.get_high r (by omega))
    rw [BitVec.toNat_ushiftRight, Nat.shiftRight_eq_div_pow] at h1
    have h2 : (Wire.get r).toNat < 2 ^ (8 * r.length) := by
      rcases Nat.lt_or_ge (Wire.get r).toNat (2 ^ (8 * r.length)) with h3 | h3
      · exact h3
      · have := Nat.div_pos h3 (Nat.two_pow_pos _)
        simp at h1; omega
    exact Nat.lt_of_lt_of_le h2 (Nat.pow_le_pow_right (by decide) (by omega))
  rw [Wire.get_cons, BitVec.toNat_or, BitVec.toNat_shiftLeft, BitVec.toNat_setWidth, Nat.shiftLeft_eq, Nat.mod_eq_of_lt (by omega : (Wire.get r).toNat * 2 ^ 8 < 2 ^ 64), Nat.mod_eq_of_lt (by have := x.isLt; omega : x.toNat < 2 ^ 64), Nat.mul_comm, ← Nat.two_pow_add_eq_or_of_lt x.isLt]
  omega
theorem num_zero (l : List (BitVec 8)) (a n : Nat) (h : a + n ≤ l.length) (h8 : n ≤ 8) : (num l a n).toNat = 0 ↔ allZ (cut l a n) = true := by
  have hl := num_le l a n h h8
  have z : Wire.le 0#64 n = List.replicate n 0#8 := by
    apply List.ext_getElem?
    intro i
    by_cases hi : i < n
    · rw [Wire.le_get _ _ _ hi, List.getElem?_replicate, if_pos hi]; congr 1; simp
    · rw [List.getElem?_eq_none (by rw [Wire.le_len]; omega), List.getElem?_eq_none (by simp; omega)]
  rw [allZ_iff, cut_len h]
  constructor
  · intro h0
    have : num l a n = 0#64 := BitVec.eq_of_toNat_eq h0
    rw [← hl, this, z]
  · intro h0
    unfold num
    rw [h0, ← z, Wire.get_le 0#64 n h8 (fun _ => by simp)]; rfl
theorem num_two (l : List (BitVec 8)) (h : 8 ≤ l.length) : (num l 0 8).toNat = (num l 0 2).toNat + 65536 * (num l 2 6).toNat := by
  match l, h with
  | x0 :: x1 :: r, h =>
    have e1 : num (x0 :: x1 :: r) 0 8 = Wire.get (x0 :: x1 :: cut (x0 :: x1 :: r) 2 6) := rfl
    have e2 : num (x0 :: x1 :: r) 0 2 = Wire.get [x0, x1] := rfl
    have hc : (cut (x0 :: x1 :: r) 2 6).length ≤ 6 := by unfold cut; rw [List.length_take]; omega
    rw [e1, e2, get_consN _ _ (by rw [List.length_cons]; omega), get_consN _ _ (by omega), get_consN _ _ (by simp), get_consN _ _ (by simp)]
    show _ + 256 * (_ + 256 * (num _ 2 6).toNat) = _ + 256 * (_ + 256 * 0) + _
    omega
theorem cons_eq2 {α : Type} {a b : α} {l m : List α} (h : a = b) (h2 : l = m) : a :: l = b :: m := by rw [h, h2]
theorem tw_all {α : Type} (p : α → Bool) (l : List α) : ∀ x ∈ l.takeWhile p, p x = true := by
  induction l with
  | nil => intro x hx; exact absurd hx (by simp)
  | cons y l ih =>
    intro x hx
    rw [List.takeWhile_cons] at hx
    cases hy : p y
    · rw [hy] at hx; exact absurd hx (by simp)
    · rw [hy, if_pos rfl] at hx
      rcases List.mem_cons.1 hx with rfl | h
      · exact hy
      · exact ih x h
theorem resOk_true (sz : Nat) (k m : Nat) (l : List (BitVec 8)) : resOk (List.replicate k (sz, true) ++ [(m, false)]) l = allZ ((l.drop (sz * k)).take m) := by
  induction k generalizing l with
  | zero => rw [List.replicate_zero, List.nil_append]; unfold resOk resOk; rw [Bool.and_true, Bool.false_or, Nat.mul_zero, List.drop_zero]
  | succ k ih => rw [List.replicate_succ, List.cons_append]; unfold resOk; rw [Bool.true_or, Bool.true_and, ih, List.drop_drop, Nat.mul_succ, Nat.add_comm]
theorem fieldsOf_true (s : Nat) (k : Nat) (l : List (BitVec 8)) (a : Nat) : fieldsOf l a (List.replicate k (s, true)) = (List.range k).map fun i => (num l (a + s * i) s, (s : Int)) := by
  induction k generalizing a with
  | zero => rfl
  | succ k ih =>
    rw [List.replicate_succ, List.range_succ_eq_map, List.map_cons, List.map_map]
    unfold fieldsOf
    rw [if_pos rfl, ih]
    refine cons_eq2 rfl (List.map_congr_left fun i _ => ?_)
    show _ = (num l (a + s * (i + 1)) s, _)
    rw [show a + s + s * i = a + s * (i + 1) by rw [Nat.mul_succ]; omega]
theorem spSz_true (s k : Nat) : spSz (List.replicate k (s, true)) = s * k := by
  unfold spSz
  induction k with
  | zero => rfl
  | succ k ih => rw [List.replicate_succ, List.map_cons, List.sum_cons, ih, Nat.mul_succ, Nat.add_comm]
/-- The zones of bytes. -/
def zoN (l : List (BitVec 8)) : Nat := min (num l 0 8).toNat 511
def zoL (l : List (BitVec 8)) (n : Nat) : List (BitVec 64) := (List.range n).map fun i => num l (8 + 8 * i) 8
def zoRd (l : List (BitVec 8)) : List (BitVec 64) := zoL l (zoN l)
def zoOkB (l : List (BitVec 8)) : Bool := zoOkL (zoRd l) && (zoBL (zoRd l) == l)
def zoM (l : List (BitVec 8)) : Nat := (num l 0 2).toNat
def zoFine (l : List (BitVec 8)) : Bool := decide (zoM l ≤ 511) && (allZ (cut l 2 6) && (zoRis (zoL l (zoM l)) && allZ (l.drop (8 + 8 * zoM l))))
theorem zoL_len (l : List (BitVec 8)) (n : Nat) : (zoL l n).length = n := by unfold zoL; rw [List.length_map, List.length_range]
theorem zoL_get (l : List (BitVec 8)) (n i : Nat) (h : i < n) : (zoL l n)[i]? = some (num l (8 + 8 * i) 8) := by unfold zoL; rw [List.getElem?_map, List.getElem?_range h]; rfl
theorem zoL_take (l : List (BitVec 8)) (n k : Nat) (h : k ≤ n) : (zoL l n).take k = zoL l k := by
  unfold zoL; rw [← List.map_take, List.take_range, Nat.min_eq_left h]
theorem zoL_more (l : List (BitVec 8)) (n : Nat) : zoL l (n + 1) = zoL l n ++ [num l (8 + 8 * n) 8] := by unfold zoL; rw [List.range_succ, List.map_append]; rfl
theorem zo_back (l : List (BitVec 8)) (h : l.length = 4096) (n : Nat) (hn : n ≤ 511) (he : (num l 0 8).toNat = n) : (zoBL (zoL l n) == l) = allZ (l.drop (8 + 8 * n)) := by
  have hf : zoFl (zoL l n) = fieldsOf l 0 (List.replicate (1 + n) (8, true)) := by
    rw [fieldsOf_true, Nat.add_comm 1 n, List.range_succ_eq_map, List.map_cons, List.map_map]
    unfold zoFl
    refine cons_eq2 ?_ ?_
    · rw [zoL_len, Nat.zero_add, Nat.mul_zero, ← he, BitVec.ofNat_toNat, BitVec.setWidth_eq]; rfl
    · unfold fl64 zoL
      rw [List.map_map]
      refine List.map_congr_left fun i _ => ?_
      show (num l (8 + 8 * i) 8, (8 : Int)) = (num l (0 + 8 * (i + 1)) 8, _)
      rw [show 0 + 8 * (i + 1) = 8 + 8 * i by omega]; rfl
  unfold zoBL
  rw [hf, page_back l _ (4096 - (8 + 8 * n)) 4096 (fun s hs => by rw [List.eq_of_mem_replicate hs]; decide) (by rw [spSz_true]; omega) h, resOk_true, show 8 * (1 + n) = 8 + 8 * n by omega, List.take_of_length_le (by rw [List.length_drop]; omega)]
theorem zo_okB (l : List (BitVec 8)) (h : l.length = 4096) : zoOkB l = zoFine l ∧ (zoFine l = true → zoRd l = zoL l (zoM l)) := by
  have h2 := num_two l (by omega)
  have h6 := num_zero l 2 6 (by omega) (by decide)
  have hlt : (num l 0 2).toNat < 65536 := num_lt l 0 2 (by omega) (by decide)
  by_cases hc : (num l 0 8).toNat ≤ 511
  · have z6 : (num l 2 6).toNat = 0 := by omega
    have em : zoM l = (num l 0 8).toNat := by unfold zoM; omega
    have en : zoN l = zoM l := by unfold zoN; rw [em]; omega
    refine ⟨?_, fun _ => by unfold zoRd; rw [en]⟩
    unfold zoOkB zoFine zoRd zoOkL
    rw [en, zo_back l h (zoM l) (by omega) em.symm, h6.1 z6, zoL_len, Bool.true_and, Bool.and_assoc]
  · have hf : zoFine l = false := by
      unfold zoFine
      by_cases q : zoM l ≤ 511
      · have : allZ (cut l 2 6) = false := by
          cases hz : allZ (cut l 2 6)
          · rfl
          · have := h6.2 hz; unfold zoM at q; omega
        rw [this, Bool.false_and, Bool.and_false]
      · rw [decide_eq_false q, Bool.false_and]
    rw [hf]
    refine ⟨?_, fun h => by cases h⟩
    unfold zoOkB
    have : (zoBL (zoRd l) == l) = false := by
      refine beq_eq_false_iff_ne.2 fun hh => ?_
      have hn : zoN l = 511 := by unfold zoN; omega
      have h8 := num_field (zoFl (zoRd l)) (zo_e _) (List.replicate (4096 - (Wire.cat (zoFl (zoRd l))).length) 0#8) 0 (BitVec.ofNat 64 (zoRd l).length, 8) rfl
      have h9 : num (zoBL (zoRd l)) 0 8 = BitVec.ofNat 64 511 := by
        have : (zoRd l).length = 511 := by unfold zoRd; rw [zoL_len, hn]
        rw [this] at h8; exact h8
      rw [hh] at h9
      rw [h9] at hc
      exact hc (by decide)
    rw [this, Bool.and_false]
theorem zo_dec (l : List (BitVec 8)) : decP 4096 zoRd zoOkB [] l = decP 4096 (fun l => zoL l (zoM l)) zoFine [] l := by
  unfold decP
  by_cases h1 : l.length < 4096
  · rw [if_pos h1, if_pos h1]
  · rw [if_neg h1, if_neg h1]
    by_cases h2 : 4096 < l.length
    · rw [if_pos h2, if_pos h2]
    · obtain ⟨e1, e2⟩ := zo_okB l (by omega)
      rw [if_neg h2, if_neg h2, e1]
      by_cases h3 : zoFine l = true
      · rw [if_pos h3, if_pos h3, e2 h3]
      · rw [if_neg h3, if_neg h3]
/-- The namespaces of bytes: those before the first zero. -/
def nsAll (l : List (BitVec 8)) : List (BitVec 32) := (List.range 1024).map fun i => (num l (4 * i) 4).setWidth 32
def nsRd (l : List (BitVec 8)) : List (BitVec 32) := (nsAll l).takeWhile (· != 0#32)
def nsOkB (l : List (BitVec 8)) : Bool := nsOkL (nsRd l) && (nsBL (nsRd l) == l)
def nsFine (l : List (BitVec 8)) : Bool := risB 0#32 (nsRd l) && allZ (l.drop (4 * (nsRd l).length))
theorem nsAll_len (l : List (BitVec 8)) : (nsAll l).length = 1024 := by unfold nsAll; rw [List.length_map, List.length_range]
theorem nsAll_get (l : List (BitVec 8)) (i : Nat) (h : i < 1024) : (nsAll l)[i]? = some ((num l (4 * i) 4).setWidth 32) := by unfold nsAll; rw [List.getElem?_map, List.getElem?_range h]; rfl
theorem nsRd_le (l : List (BitVec 8)) : (nsRd l).length ≤ 1024 := by
  have := (List.takeWhile_prefix (· != 0#32) (l := nsAll l)).length_le
  rw [nsAll_len] at this; exact this
theorem nsRd_take (l : List (BitVec 8)) : nsRd l = (nsAll l).take (nsRd l).length := (List.prefix_iff_eq_take.1 (List.takeWhile_prefix _))
theorem nsRd_get (l : List (BitVec 8)) (i : Nat) (h : i < (nsRd l).length) : (nsRd l)[i]? = some ((num l (4 * i) 4).setWidth 32) ∧ (num l (4 * i) 4).setWidth 32 ≠ 0#32 := by
  have h1 := nsRd_le l
  have e : (nsRd l)[i]? = some ((num l (4 * i) 4).setWidth 32) := by
    rw [nsRd_take, List.getElem?_take_of_lt h, nsAll_get l i (by omega)]
  refine ⟨e, ?_⟩
  have hm : (num l (4 * i) 4).setWidth 32 ∈ nsRd l := List.mem_of_getElem? e
  unfold nsRd at hm
  have := tw_all _ _ _ hm
  simpa using this
theorem takeWhile_end {α : Type} (p : α → Bool) (l : List α) (h : (l.takeWhile p).length < l.length) : ∃ x, l[(l.takeWhile p).length]? = some x ∧ p x = false := by
  induction l with
  | nil => exact absurd h (by simp)
  | cons y l ih =>
    rw [List.takeWhile_cons] at h ⊢
    cases hy : p y
    · rw [hy] at h; exact ⟨y, by simp, hy⟩
    · rw [hy] at h
      simp only [if_true, List.length_cons] at h ⊢
      obtain ⟨x, h1, h2⟩ := ih (by omega)
      exact ⟨x, by rw [List.getElem?_cons_succ]; exact h1, h2⟩
theorem nsRd_end (l : List (BitVec 8)) (h : (nsRd l).length < 1024) : (num l (4 * (nsRd l).length) 4).setWidth 32 = 0#32 := by
  obtain ⟨x, h1, h2⟩ := takeWhile_end (· != 0#32) (nsAll l) (by rw [nsAll_len]; exact h)
  replace h1 : (nsAll l)[(nsRd l).length]? = some x := h1
  rw [nsAll_get l _ h] at h1
  injection h1 with h1
  rw [← h1] at h2
  simpa using h2
/-- The first n dwords. -/
def nsN (l : List (BitVec 8)) (n : Nat) : List (BitVec 32) := (List.range n).map fun i => (num l (4 * i) 4).setWidth 32
theorem nsN_len (l : List (BitVec 8)) (n : Nat) : (nsN l n).length = n := by unfold nsN; rw [List.length_map, List.length_range]
theorem nsN_more (l : List (BitVec 8)) (n : Nat) : nsN l (n + 1) = nsN l n ++ [(num l (4 * n) 4).setWidth 32] := by unfold nsN; rw [List.range_succ, List.map_append]; rfl
theorem nsN_get (l : List (BitVec 8)) (n i : Nat) (h : i < n) : (nsN l n)[i]? = some ((num l (4 * i) 4).setWidth 32) := by unfold nsN; rw [List.getElem?_map, List.getElem?_range h]; rfl
theorem nsN_take (l : List (BitVec 8)) (n k : Nat) (h : k ≤ n) : (nsN l n).take k = nsN l k := by
  unfold nsN; rw [← List.map_take, List.take_range, Nat.min_eq_left h]
theorem nsRd_N (l : List (BitVec 8)) : nsRd l = nsN l (nsRd l).length := by
  refine (nsRd_take l).trans ?_
  exact nsN_take l 1024 _ (nsRd_le l)
theorem nsN_back (l : List (BitVec 8)) (h : l.length = 4096) (n : Nat) (h1 : n ≤ 1024) : (nsBL (nsN l n) == l) = allZ (l.drop (4 * n)) := by
  have hf : fl32 (nsN l n) = fieldsOf l 0 (List.replicate n (4, true)) := by
    rw [fieldsOf_true]
    unfold fl32 nsN
    rw [List.map_map]
    refine List.map_congr_left fun i hi => ?_
    have hi : i < n := List.mem_range.1 hi
    show (((num l (4 * i) 4).setWidth 32).setWidth 64, (4 : Int)) = (num l (0 + 4 * i) 4, _)
    rw [num_back32 l (4 * i) (by omega), Nat.zero_add]; rfl
  unfold nsBL
  rw [hf, page_back l _ (4096 - 4 * n) 4096 (fun s hs => by rw [List.eq_of_mem_replicate hs]; decide) (by rw [spSz_true]; omega) h, resOk_true, List.take_of_length_le (by rw [List.length_drop]; omega)]
theorem ns_back (l : List (BitVec 8)) (h : l.length = 4096) : (nsBL (nsRd l) == l) = allZ (l.drop (4 * (nsRd l).length)) := by
  have e := nsN_back l h _ (nsRd_le l)
  rw [← nsRd_N] at e
  exact e
theorem ns_dec (l : List (BitVec 8)) : decP 4096 nsRd nsOkB [] l = decP 4096 nsRd nsFine [] l := by
  refine decP_congr _ _ _ _ _ _ _ fun h => ⟨rfl, ?_⟩
  unfold nsOkB nsFine nsOkL
  rw [ns_back l h, decide_eq_true (nsRd_le l), Bool.true_and]
/-- Fields that are all laid. -/
def lT (fl : List WF) : List (WF × Bool) := fl.map fun f => (f, true)
theorem lT_fst (fl : List WF) : (lT fl).map (·.1) = fl := by unfold lT; rw [List.map_map]; exact List.map_id _
theorem plcT_more (s : Nat) (x : WF) : ∀ (fl : List WF) (a : Nat), (∀ f ∈ fl, f.2 = (s : Int)) → plc a (lT (fl ++ [x])) = plc a (lT fl) ++ [(a + s * fl.length, Wire.putB x.1 x.2)]
  | [], a, _ => by rw [List.length_nil, Nat.mul_zero, Nat.add_zero]; rfl
  | f :: fl, a, h => by
    have hf : f.2.toNat = s := by rw [h f List.mem_cons_self]; rfl
    have e : ∀ r : List WF, plc a (lT (f :: r)) = (a, Wire.putB f.1 f.2) :: plc (a + f.2.toNat) (lT r) := fun r => rfl
    rw [List.cons_append, e, e, hf, plcT_more s x fl (a + s) (fun g hg => h g (List.mem_cons_of_mem _ hg)), List.cons_append, List.length_cons, Nat.mul_succ, show a + s + s * fl.length = a + (s * fl.length + s) by omega]
theorem fl32_s (l : List (BitVec 32)) : ∀ f ∈ fl32 l, f.2 = ((4 : Nat) : Int) := fun f hf => by obtain ⟨x, -, rfl⟩ := List.mem_map.1 hf; rfl
theorem fl64_s (l : List (BitVec 64)) : ∀ f ∈ fl64 l, f.2 = ((8 : Nat) : Int) := fun f hf => by obtain ⟨x, -, rfl⟩ := List.mem_map.1 hf; rfl
theorem fl32_snoc (l : List (BitVec 32)) (x : BitVec 32) : fl32 (l ++ [x]) = fl32 l ++ [(x.setWidth 64, 4)] := by unfold fl32; rw [List.map_append]; rfl
theorem fl64_snoc (l : List (BitVec 64)) (x : BitVec 64) : fl64 (l ++ [x]) = fl64 l ++ [(x, 8)] := by unfold fl64; rw [List.map_append]; rfl
theorem fl32_n (l : List (BitVec 32)) : (fl32 l).length = l.length := by unfold fl32; rw [List.length_map]
theorem fl64_n (l : List (BitVec 64)) : (fl64 l).length = l.length := by unfold fl64; rw [List.length_map]
/-- What is laid so far. -/
def nsP (N : Nat) (l : List (BitVec 32)) : List (BitVec 8) := Lay.lays (List.replicate N 0#8) (plc 0 (lT (fl32 l)))
theorem nsP_more (N : Nat) (l : List (BitVec 32)) (x : BitVec 32) : Lay.lay (nsP N l) (4 * l.length) (Wire.le (x.setWidth 64) 4) = nsP N (l ++ [x]) := by
  unfold nsP
  rw [fl32_snoc, plcT_more 4 (x.setWidth 64, 4) (fl32 l) 0 (fl32_s l), Lay.lays_snoc, fl32_n, Nat.zero_add, (fit32 x).2]
theorem nsP_all (N : Nat) (l : List (BitVec 32)) (h : 4 * l.length ≤ N) : nsP N l = pageB N (fl32 l) := by
  have := lays_page (lT (fl32 l)) N (fun f hf => by
    obtain ⟨g, hg, rfl⟩ := List.mem_map.1 hf
    obtain ⟨x, -, rfl⟩ := List.mem_map.1 hg
    exact ⟨(fit32 x).1, fun h => by cases h⟩) (by rw [lT_fst, fl32_sz]; exact h)
  rw [lT_fst] at this
  exact this
theorem le_two (n : BitVec 64) (h : n.toNat < 65536) : Wire.le n 8 = Wire.le n 2 ++ List.replicate 6 0#8 := by
  have z : ∀ i, 2 ≤ i → (n >>> (8 * i)).setWidth 8 = 0#8 := fun i hi => by
    apply BitVec.eq_of_toNat_eq
    rw [BitVec.toNat_setWidth, BitVec.toNat_ushiftRight, Nat.shiftRight_eq_div_pow, Nat.div_eq_of_lt (Nat.lt_of_lt_of_le h (Nat.le_trans (by decide : 65536 ≤ 2 ^ 16) (Nat.pow_le_pow_right (by decide) (by omega))))]; rfl
  unfold Wire.le
  simp only [show List.range 8 = [0, 1, 2, 3, 4, 5, 6, 7] from rfl, show List.range 2 = [0, 1] from rfl, List.map_cons, List.map_nil]
  rw [z 2 (by decide), z 3 (by decide), z 4 (by decide), z 5 (by decide), z 6 (by decide), z 7 (by decide)]
  rfl
def zoP (n : Nat) (l : List (BitVec 64)) : List (BitVec 8) := Lay.lays (Lay.lay (List.replicate 4096 0#8) 0 (Wire.le (BitVec.ofNat 64 n) 2)) (plc 8 (lT (fl64 l)))
theorem zoP_nil (n : Nat) : zoP n [] = Lay.lay (List.replicate 4096 0#8) 0 (Wire.le (BitVec.ofNat 64 n) 2) := by
  unfold zoP
  rw [show plc 8 (lT (fl64 [])) = [] from rfl, Lay.lays_nil]
theorem nsP_nil (N : Nat) : nsP N [] = List.replicate N 0#8 := by
  unfold nsP
  rw [show plc 0 (lT (fl32 [])) = [] from rfl, Lay.lays_nil]
theorem zoP_more (n : Nat) (l : List (BitVec 64)) (x : BitVec 64) : Lay.lay (zoP n l) (8 + 8 * l.length) (Wire.le x 8) = zoP n (l ++ [x]) := by
  unfold zoP
  rw [fl64_snoc, plcT_more 8 (x, 8) (fl64 l) 8 (fl64_s l), Lay.lays_snoc, fl64_n, (fit64 x).2]
theorem zoP_all (l : List (BitVec 64)) (h : l.length ≤ 511) : zoP l.length l = zoBL l := by
  have hn : (BitVec.ofNat 64 l.length).toNat = l.length := by rw [BitVec.toNat_ofNat, Nat.mod_eq_of_lt (by omega)]
  have f2 := fit_any (BitVec.ofNat 64 l.length) 2 (by decide) (by decide) (by rw [hn]; omega)
  have f6 := fit0 6 (by decide) (by decide)
  have := lays_page (((BitVec.ofNat 64 l.length, 2), true) :: ((0#64, 6), false) :: lT (fl64 l)) 4096 (by
    rw [List.forall_mem_cons, List.forall_mem_cons]
    refine ⟨⟨f2.1, fun h => by cases h⟩, ⟨f6.1, fun _ => rfl⟩, fun f hf => ?_⟩
    obtain ⟨g, hg, rfl⟩ := List.mem_map.1 hf
    obtain ⟨x, -, rfl⟩ := List.mem_map.1 hg
    exact ⟨(fit64 x).1, fun h => by cases h⟩) (by
    rw [List.map_cons, List.map_cons, lT_fst]
    show 2 + (6 + sz (fl64 l)) ≤ 4096
    rw [fl64_sz]; omega)
  rw [List.map_cons, List.map_cons, lT_fst] at this
  have e1 : zoP l.length l = Lay.lays (List.replicate 4096 0#8) (plc 0 (((BitVec.ofNat 64 l.length, 2), true) :: ((0#64, 6), false) :: lT (fl64 l))) := by
    have : plc 0 (((BitVec.ofNat 64 l.length, 2), true) :: ((0#64, 6), false) :: lT (fl64 l)) = (0, Wire.putB (BitVec.ofNat 64 l.length) 2) :: plc 8 (lT (fl64 l)) := rfl
    rw [this, show Wire.putB (BitVec.ofNat 64 l.length) 2 = Wire.le (BitVec.ofNat 64 l.length) 2 from f2.2]
    rfl
  rw [e1, this]
  have e2 : Wire.cat ((BitVec.ofNat 64 l.length, 2) :: (0#64, 6) :: fl64 l) = Wire.cat (zoFl l) := by
    unfold zoFl Wire.cat
    rw [List.flatMap_cons, List.flatMap_cons, List.flatMap_cons, ← List.append_assoc]
    refine congrArg (· ++ _) ?_
    show Wire.putB (BitVec.ofNat 64 l.length) (2 : Nat) ++ Wire.putB 0#64 (6 : Nat) = Wire.putB (BitVec.ofNat 64 l.length) 8
    rw [f2.2, f6.2, (fit64 _).2, le_two _ (by rw [hn]; omega)]
  unfold zoBL pageB
  rw [e2]
/-- Effects. -/
def efB (a b : List (BitVec 32)) : List (BitVec 8) := nsBL (a ++ b)
def ioN (l : List (BitVec 8)) (n : Nat) : List (BitVec 32) := (List.range n).map fun i => (num l (1024 + 4 * i) 4).setWidth 32
theorem ioN_len (l : List (BitVec 8)) (n : Nat) : (ioN l n).length = n := by unfold ioN; rw [List.length_map, List.length_range]
theorem ioN_more (l : List (BitVec 8)) (n : Nat) : ioN l (n + 1) = ioN l n ++ [(num l (1024 + 4 * n) 4).setWidth 32] := by unfold ioN; rw [List.range_succ, List.map_append]; rfl
theorem ef_split (l : List (BitVec 8)) : nsN l 512 = nsN l 256 ++ ioN l 256 := by
  unfold nsN ioN
  rw [show (512 : Nat) = 256 + 256 from rfl, List.range_add, List.map_append, List.map_map]
  refine congrArg (fun z => (List.range 256).map (fun i => BitVec.setWidth 32 (num l (4 * i) 4)) ++ z) (List.map_congr_left fun i _ => ?_)
  show (num l (4 * (256 + i)) 4).setWidth 32 = _
  rw [show 4 * (256 + i) = 1024 + 4 * i by omega]
theorem ef_back (l : List (BitVec 8)) (h : l.length = 4096) : (efB (nsN l 256) (ioN l 256) == l) = allZ (l.drop 2048) := by
  unfold efB
  rw [← ef_split, nsN_back l h 512 (by decide)]
theorem lay_left (A B d : List (BitVec 8)) (p : Nat) (h : p + d.length ≤ A.length) : Lay.lay (A ++ B) p d = Lay.lay A p d ++ B := by
  unfold Lay.lay
  rw [List.take_append_of_le_length (by omega), List.drop_append_of_le_length h]; simp only [List.append_assoc]
theorem lay_right (A B d : List (BitVec 8)) (p : Nat) : Lay.lay (A ++ B) (A.length + p) d = A ++ Lay.lay B p d := by
  unfold Lay.lay
  rw [List.take_length_add_append, Nat.add_assoc, List.drop_length_add_append]; simp only [List.append_assoc]
theorem nsP_len (N : Nat) (l : List (BitVec 32)) (h : 4 * l.length ≤ N) : (nsP N l).length = N := by
  rw [nsP_all N l h]; exact pageB_len (by rw [cat_len0 _ (fl32_e l), fl32_sz]; exact h)
def efP (a b : List (BitVec 32)) : List (BitVec 8) := nsP 1024 a ++ nsP 3072 b
theorem efP_a (a b : List (BitVec 32)) (x : BitVec 32) (h : a.length < 256) : Lay.lay (efP a b) (4 * a.length) (Wire.le (x.setWidth 64) 4) = efP (a ++ [x]) b := by
  unfold efP
  rw [lay_left _ _ _ _ (by rw [nsP_len 1024 a (by omega), Wire.le_len]; omega), nsP_more]
theorem efP_b (a b : List (BitVec 32)) (x : BitVec 32) (h : a.length ≤ 256) : Lay.lay (efP a b) (1024 + 4 * b.length) (Wire.le (x.setWidth 64) 4) = efP a (b ++ [x]) := by
  unfold efP
  have e := nsP_len 1024 a (by omega)
  have := lay_right (nsP 1024 a) (nsP 3072 b) (Wire.le (x.setWidth 64) 4) (4 * b.length)
  rw [e] at this
  rw [this, nsP_more]
theorem efP_all (a b : List (BitVec 32)) (ha : a.length = 256) (hb : b.length = 256) : efP a b = efB a b := by
  unfold efP efB nsBL
  rw [nsP_all 1024 a (by omega), nsP_all 3072 b (by omega)]
  have e : fl32 (a ++ b) = fl32 a ++ fl32 b := by unfold fl32; rw [List.map_append]
  have c : Wire.cat (fl32 (a ++ b)) = Wire.cat (fl32 a) ++ Wire.cat (fl32 b) := by rw [e]; unfold Wire.cat; rw [List.flatMap_append]
  have na : (Wire.cat (fl32 a)).length = 1024 := by rw [cat_len0 _ (fl32_e a), fl32_sz]; omega
  have nb : (Wire.cat (fl32 b)).length = 1024 := by rw [cat_len0 _ (fl32_e b), fl32_sz]; omega
  unfold pageB
  rw [c, List.length_append, na, nb, Nat.sub_self, List.replicate_zero, List.append_nil, List.append_assoc]
end Lg
end Go.Proofs.YthnnopjakpjoeaaDoor
namespace Go.Proofs.YthnnopjakpjoeaaDoor
open Go.RowKit Lg
set_option linter.unusedVariables false
set_option linter.unusedSimpArgs false
def c32 (l : List (BitVec 32)) : List Value := l.map fun y => .int .u32 (uv y)
@[simp] theorem c32_length (l : List (BitVec 32)) : (c32 l).length = l.length := by unfold c32; rw [List.length_map]
theorem c32_append (a b : List (BitVec 32)) : c32 (a ++ b) = c32 a ++ c32 b := by unfold c32; rw [List.map_append]
theorem c32_one (l : List (BitVec 32)) : ∀ u ∈ c32 l, u.oneCell' = true := by
  intro u hu
  obtain ⟨x, _, rfl⟩ := List.mem_map.1 hu
  rfl
theorem c32_get (l : List (BitVec 32)) (k : Nat) (x : BitVec 32) (h : l[k]? = some x) : (c32 l)[k]? = some (.int .u32 (uv x)) := by
  unfold c32; rw [List.getElem?_map, h]; rfl
theorem c32Ok : ElemOk Tryd.prog 89 24 (.int .u32 0) 1 4 :=
  ⟨Tryd.underlying89, info_parts (by kernel_rfl), rfl, by decide⟩
def Sl32 (w : World) (v : Value) (l : List (BitVec 32)) : Prop := ∃ a c, v = .slice a l.length c ∧ (a = none → c = 0) ∧ l.length ≤ c ∧ c ≤ 9223372036854775807 ∧ Row w a (c32 l)
theorem Sl32.below {w w' : World} {v : Value} {l : List (BitVec 32)} (h : Sl32 w v l) (hb : Below w.heap.size w w') : Sl32 w' v l := by
  obtain ⟨a, c, e, h0, h1, h2, h3⟩ := h
  exact ⟨a, c, e, h0, h1, h2, h3.below hb⟩
def Parts32 (w : World) (v : Value) (ls : List (List (BitVec 32))) : Prop :=
  ∃ a c vs, v = .slice a ls.length c ∧ (a = none → c = 0) ∧ ls.length ≤ c ∧ c ≤ 9223372036854775807 ∧ Row w a vs ∧ vs.length = ls.length ∧ ∀ (i : Nat) (l : List (BitVec 32)), ls[i]? = some l → ∃ u, vs[i]? = some u ∧ Sl32 w u l
theorem flat_take32 (ls : List (List (BitVec 32))) (k : Nat) (l : List (BitVec 32)) (h : ls[k]? = some l) : (ls.take (k + 1)).flatten = (ls.take k).flatten ++ l := by
  obtain ⟨hk, rfl⟩ := List.getElem?_eq_some_iff.1 h
  rw [List.take_succ_eq_append_getElem hk, List.flatten_append]; simp
theorem flat_le32 (ls : List (List (BitVec 32))) (k : Nat) : (ls.take k).flatten.length ≤ ls.flatten.length := by
  have : ls.flatten = (ls.take k).flatten ++ (ls.drop k).flatten := by rw [← List.flatten_append, List.take_append_drop]
  rw [this, List.length_append]; omega
/-- How many bytes there are in the first k parts. -/
def total32 (ls : List (List (BitVec 32))) (k : Nat) : Nat := (ls.take k).flatten.length
theorem total_step32 (ls : List (List (BitVec 32))) (k : Nat) (l : List (BitVec 32)) (h : ls[k]? = some l) : total32 ls (k + 1) = total32 ls k + l.length := by
  unfold total32; rw [flat_take32 ls k l h, List.length_append]
theorem total_le32 (ls : List (List (BitVec 32))) (k : Nat) : total32 ls k ≤ ls.flatten.length := flat_le32 ls k
theorem total_all32 (ls : List (List (BitVec 32))) : total32 ls ls.length = ls.flatten.length := by unfold total32; rw [List.take_length]

theorem infoU832 : ∃ i, Tryd.prog.info? 24 = some i ∧ i.zero = some (.int .u32 0) ∧ i.size = 1 ∧ i.bytes = 4 := info_parts (by kernel_rfl)
theorem grow_run32 (n : Nat) (w : World) (h0 : 0 < n) (hn : n ≤ 1000000) : ∃ C w1, (w1.ownsRow w.heap.size 24 1 (.slice (some ⟨w.heap.size, 0, none⟩) 0 C) 0 [] ∧ Below w.heap.size w w1) ∧
    (Builtin.append_ #[89, 3] 89 #[.slice none 0 0, .int .i64 n]).run Tryd.prog w = .ok (.slice (some ⟨w.heap.size, 0, none⟩) n C) w1 := by
  obtain ⟨i, hi, hz, hs, hb⟩ := infoU832
  have hge := grownCap_ge w n 0 24
  have hle := grownCap_le_maxLen w n 0 24 (by unfold maxLen; omega)
  refine ⟨_, _, ?_, Lib.run_append_nil_zeros (P := Tryd.prog) w 89 3 89 24 i (.int .u32 0) .i64 .i64 Tryd.underlying89 Tryd.underlying3 hi hz n (by omega) (by omega) (by omega) (by rw [hb]; omega)⟩
  refine ⟨⟨by simp, .inr ⟨w.heap.size, _, _, rfl, Nat.le_refl _, heap_alloc_new w.drew _, Nat.zero_le _, hle, ?_, by simp⟩⟩, gr_tr (gr_drew w) (gr_alloc _ _)⟩
  simp [size_zeroCells, Value.cells]; omega
theorem Grow_nil32 (n : Nat) (w : World) (hn : n ≤ 1000000) :
    Calls Tryd.prog 153 #[.slice none 0 0, .int .i64 n] w fun e w' => ∃ u, e = .returned u ∧ w'.ownsRow w.heap.size 24 1 u 0 [] ∧ Below w.heap.size w w' := by
  by_cases h0 : n = 0
  · subst h0
    go_enter Tryd.func153, Tryd.ntmps153
    go_wp2
    go_ret
    exact ⟨_, rfl, World.ownsRow_nil _ _ _ _, Below.refl _ _⟩
  · have hn0 : 0 < n := by omega
    clear h0
    have hsl := fun (w : World) C w' => run_slice_front Tryd.underlying89 (by kernel_rfl) (some ⟨w.heap.size, 0, none⟩) n C 0 (Nat.zero_le _) w'
    simp only [Int.natCast_zero] at hsl
    go_enter Tryd.func153, Tryd.ntmps153
    go_wp2_with (first
      | (with_reducible show wpList _ _ _ _ _ _; refine cap_law rfl _ Tryd.underlying89 rfl rfl ?_)
      | (at_builtin; obtain ⟨C, w1, hfin, hrun⟩ := grow_run32 n w hn0 hn; refine Lib.wpList_append_run _ rfl _ _ _ _ rfl _ _ rfl rfl _ _ hrun ?_; clear hrun; have HF := Lib.hid hfin; clear hfin))
    go_ret
    exact ⟨_, rfl, HF.out.1, HF.out.2⟩

set_option maxHeartbeats 400000 in
theorem Concat_any32 (v : Value) (ls : List (List (BitVec 32))) (w : World) (hv : Parts32 w v ls) (hs : ls.flatten.length ≤ 1000000) :
    Calls Tryd.prog 112 #[v] w fun e w' => ∃ u, e = .returned u ∧ w'.ownsRow w.heap.size 24 1 u ls.flatten.length (c32 ls.flatten) ∧ Below w.heap.size w w' := by
  have HT := Lib.hid (total_all32 ls)
  have HV := Lib.hid hv
  have hle := total_le32 ls
  have HLE := Lib.hid hle; clear hle
  obtain ⟨T, hT⟩ : ∃ T, T = ls.flatten.length := ⟨_, rfl⟩
  rw [← hT] at hs
  have HTE := Lib.hid hT; clear hT
  obtain ⟨a, c, vs, rfl, hn, hc, hm, hrow, hl, hparts⟩ := hv
  have HROW := Lib.hid hrow; clear hrow
  have HL := Lib.hid hl; clear hl
  have HP := Lib.hid hparts; clear hparts
  have hm' : ls.length ≤ 9223372036854775807 := by omega
  go_enter Tryd.func112, Tryd.ntmps112
  go_wp2
  go_loop [3, 11] (fun s i => ∃ k : Nat, k ≤ ls.length ∧ i = .int .i64 k ∧ s = .int .i64 (total32 ls k)) (fun _ i => ls.length - (intOf i).toNat)
  case atStart => exact ⟨0, by omega, rfl, rfl⟩
  case round =>
    obtain ⟨k, hk, rfl, rfl⟩ := hrel
    by_cases hlt : k < ls.length
    · obtain ⟨l, hlk⟩ : ∃ l, ls[k]? = some l := ⟨ls[k], List.getElem?_eq_getElem hlt⟩
      obtain ⟨x, hx, hbx⟩ := HP.out k l hlk
      obtain ⟨b, o, rfl, hcell⟩ := HROW.out.at hx
      obtain ⟨a2, c2, rfl, hn2, hlc2, hc2, hr2⟩ := hbx
      have ST := Lib.hid (total_step32 ls k l hlk)
      have hb : total32 ls k + l.length ≤ T := by rw [HTE.out, ← ST.out]; exact HLE.out _
      clear hr2 hx hlk
      go_wp2
      go_round
      case rel => exact ⟨k + 1, by omega, by go_num, by rw [ST.out]; go_num⟩
      case measure => simp [intOf]; omega
    · obtain rfl : k = ls.length := by omega
      have hTT : total32 ls ls.length = T := by rw [HTE.out]; exact HT.out
      rw [hTT]
      have HTT := Lib.hid hTT; clear hTT
      go_wp2_with fail
      refine (Grow_nil32 T _ (by omega)).mono ?_
      rintro e w1 ⟨u, rfl, hown, hb⟩
      have HO := Lib.hid hown; clear hown
      have HB := Lib.hid hb; clear hb
      go_wp2_with fail
      go_loopw [6, 27] (fun u i wr => ∃ k : Nat, k ≤ ls.length ∧ i = .int .i64 k ∧ wr.ownsRow w.heap.size 24 1 u (total32 ls k) (c32 (ls.take k).flatten) ∧ Below w.heap.size w wr) (fun _ i _ => ls.length - (intOf i).toNat)
      case atStart => exact ⟨0, by omega, rfl, HO.out, HB.out⟩
      case round =>
        obtain ⟨k, hk, rfl, hown, hb⟩ := hrel
        have HO2 := Lib.hid hown; clear hown
        have HB2 := Lib.hid hb; clear hb
        by_cases hlt : k < ls.length
        · obtain ⟨l, hlk⟩ : ∃ l, ls[k]? = some l := ⟨ls[k], List.getElem?_eq_getElem hlt⟩
          obtain ⟨x, hx, hbx⟩ := HP.out k l hlk
          obtain ⟨b, o, rfl, hcell⟩ := (HROW.out.below HB2.out).at hx
          obtain ⟨a2, c2, rfl, hn2, hlc2, hc2, hr2⟩ := hbx.below HB2.out
          have HR2 := Lib.hid hr2; clear hr2
          have HN2 := Lib.hid hn2; clear hn2
          have ST := Lib.hid (total_step32 ls k l hlk)
          have FT := Lib.hid (flat_take32 ls k l hlk)
          have hb : total32 ls k + l.length ≤ T := by rw [HTE.out, ← ST.out]; exact HLE.out _
          clear hx hbx hlk
          go_wp2_with (at_builtin; refine app_law c32Ok rfl _ _ rfl w.heap.size _ _ _ rfl HO2.out a2 l.length c2 (c32 l) rfl HN2.out hlc2 HR2.out (by simp) (c32_one l) (by omega) (by omega) HB2.out.size ?_; intro v' w2 hown1 hgrow1 _; have HO3 := Lib.hid hown1; clear hown1; have HG3 := Lib.hid hgrow1; clear hgrow1)
          go_roundw
          case rel => exact ⟨k + 1, by omega, by go_num, by rw [FT.out, ST.out, c32_append]; exact HO3.out, HB2.out.grown HG3.out HB2.out.size (fun k hk => ((HO2.out.lt) k hk).1)⟩
          case measure => simp [intOf]; omega
        · obtain rfl : k = ls.length := by omega
          go_wp2
          go_ret
          exact ⟨_, rfl, by have := HO2.out; rw [List.take_length, HTT.out] at this; rw [← HTE.out]; exact this, HB2.out⟩
theorem Sl32.of_own {w : World} {base : Nat} {e : TypeId} {v : Value} {l : List (BitVec 32)} (h : w.ownsRow base e 1 v l.length (c32 l)) : Sl32 w v l := by
  obtain ⟨h1, h2⟩ := h
  rcases h2 with ⟨e1, e2⟩ | ⟨g, cap, cur, hv, hg, hh, r1, r2, r3, r4⟩
  · have : l = [] := List.length_eq_zero_iff.1 e2
    subst this; subst e1; exact ⟨none, 0, rfl, fun _ => rfl, by simp, by simp, .inl rfl⟩
  · subst hv
    exact ⟨_, cap, rfl, (by simp), r1, r2, Row.of_own ⟨h1, .inr ⟨g, cap, cur, rfl, hg, hh, r1, r2, r3, r4⟩⟩⟩
theorem row_block {w : World} {g : Nat} {cs : Array Value} {t : TypeId} {fr : Nat × Nat} (h : w.heap[g]? = some (.cells cs t fr)) : Row w (some ⟨g, 0, none⟩) cs.toList :=
  .inr ⟨g, 0, rfl, fun j hj => by
    rw [Nat.zero_add, Array.getElem?_toList]
    exact cell_of_row _ _ j _ _ _ h⟩
set_option maxRecDepth 20000 in
set_option maxHeartbeats 3200000 in
theorem EncEf_at (a b : List (BitVec 32)) (B : List (BitVec 8)) (w : World) (ha : a.length = 256) (hb : b.length = 256) (hB : efB a b = B) :
    Calls Tryd.prog 48 #[.agg (c32 a).toArray, .agg (c32 b).toArray] w fun r w' => ∃ u, r = .returned u ∧ w'.ownsRow w.heap.size 5 1 u B.length (by8 B) ∧ Below w.heap.size w w' := by
  have HB := Lib.hid hB
  have HA1 := Lib.hid ha; have HB1 := Lib.hid hb
  obtain ⟨ca, hca⟩ : ∃ c, (c32 a).toArray = c := ⟨_, rfl⟩
  obtain ⟨cb, hcb⟩ : ∃ c, (c32 b).toArray = c := ⟨_, rfl⟩
  have LA := Lib.hid (show ca.toList = c32 a by rw [← hca])
  have LB := Lib.hid (show cb.toList = c32 b by rw [← hcb])
  rw [hca, hcb]
  obtain ⟨W, hW⟩ : ∃ W, W = (w.alloc (.cells ca 105)).alloc (.cells cb 105) := ⟨_, rfl⟩
  have D := Lib.hid (show Below w.heap.size w W by rw [hW]; exact gr_tr (gr_alloc w _) (gr_alloc _ _))
  have XA := Lib.hid (show W.heap[w.heap.size]? = some (.cells ca 105 (0, 0)) by rw [hW]; exact blk_below (heap_alloc_new w _) (gr_alloc _ _))
  have XB := Lib.hid (show W.heap[w.heap.size + 1]? = some (.cells cb 105 (0, 0)) by rw [hW]; have h := heap_alloc_new (w.alloc (.cells ca 105)) (.cells cb 105); rwa [World.size_alloc] at h)
  have HW := Lib.hid hW
  clear hW hca hcb ha hb hB
  go_enter Tryd.func48, Tryd.ntmps48
  go_upto_region 1 with (fail)
  rw [← HW.out]
  go_upto_region 2 with (fail)
  refine wp_region_planW nowhere [(true, 0), (true, 1), (true, 5), (false, 2), (false, 3), (true, 4)] (by kernel_rfl) (by kernel_rfl) (by intro c a d v w h; cases d <;> exact h) ?_
  intro W1 K1 C1
  repeat (refine wpS_firm rfl (fun K hK => ?_); simp only [Keep]; go_simp; refine hK _ ?_; clear hK K)
  refine wpS_chain rfl ?_
  go_wp2
  refine ⟨K1.out.alloc _, ?_⟩
  refine wpS_chain rfl ?_
  have CA := Lib.hid (gr_tr C1.out (gr_alloc W1 (.cells #[.slice (some ⟨w.heap.size, 0, none⟩) 256 256, .slice (some ⟨w.heap.size + 1, 0, none⟩) 256 256] 89)))
  obtain ⟨W2, hW2⟩ : ∃ x, x = W1.alloc (.cells #[.slice (some ⟨w.heap.size, 0, none⟩) 256 256, .slice (some ⟨w.heap.size + 1, 0, none⟩) 256 256] 89) := ⟨_, rfl⟩
  have K2 := Lib.hid (show Keep nowhere W W2 by rw [hW2]; exact K1.out.alloc _)
  have CB := Lib.hid (show Below W.heap.size W W2 by rw [hW2]; exact CA.out)
  have PT := Lib.hid (show Parts32 W2 (.slice (some ⟨W1.heap.size, 0, none⟩) 2 2) [a, b] from ⟨_, 2, [.slice (some ⟨w.heap.size, 0, none⟩) 256 256, .slice (some ⟨w.heap.size + 1, 0, none⟩) 256 256], rfl, fun h => (by cases h), Nat.le_refl _, by decide, by rw [hW2]; exact Row.lit W1 #[.slice (some ⟨w.heap.size, 0, none⟩) 256 256, .slice (some ⟨w.heap.size + 1, 0, none⟩) 256 256] _ (0, 0), rfl, fun i l hi => by
    match i, hi with
    | 0, hi =>
      injection hi with hi; subst hi
      exact ⟨_, rfl, _, 256, by rw [HA1.out], fun h => (by cases h), by rw [HA1.out]; exact Nat.le_refl _, by decide, by rw [← LA.out]; exact row_block (blk_below XA.out CB.out)⟩
    | 1, hi =>
      injection hi with hi; subst hi
      exact ⟨_, rfl, _, 256, by rw [HB1.out], fun h => (by cases h), by rw [HB1.out]; exact Nat.le_refl _, by decide, by rw [← LB.out]; exact row_block (blk_below XB.out CB.out)⟩
    | k + 2, hi => exact absurd hi (by simp)⟩)
  have FLT := Lib.hid (show [a, b].flatten = a ++ b by simp)
  have FLN := Lib.hid (show (a ++ b).length = 512 by rw [List.length_append, HA1.out, HB1.out])
  rw [← hW2]
  clear hW2
  go_wp2_with (go_at_call 112; go_loud (refine (Concat_any32 _ [a, b] W2 PT.out (by rw [FLT.out, FLN.out]; decide)).mono ?_; rw [FLT.out]; rintro r W3 ⟨u, rfl, ho, hw⟩; have S3 := Lib.hid (Sl32.of_own ho); have K3 := Lib.hid (K2.out.below hw); have C3 := Lib.hid (gr_tr CB.out hw); clear ho hw))
  refine ⟨K3.out, ?_⟩
  obtain ⟨ad, cc, hu, -, -, -, hrow⟩ := S3.out
  rw [FLN.out] at hu
  subst hu
  have ROW := Lib.hid hrow
  clear hrow
  repeat (refine wpS_firm rfl (fun K hK => ?_); simp only [Keep]; go_simp; refine hK _ ?_; clear hK K)
  unfold wpS
  have D3 := Lib.hid (gr_tr D.out C3.out)
  clear K1 C1 CA K2 CB PT K3
  go_upto_region 3 with (fail)
  go_loopw [5, 13] (fun u i wr => ∃ k : Nat, k ≤ 512 ∧ i = .int .i64 k ∧ wr.ownsRow W3.heap.size 192 2 u k (fCells (fl32 ((a ++ b).take k))) ∧ Below W3.heap.size W3 wr) (fun _ i _ => 512 - (intOf i).toNat)
  case atStart => exact ⟨0, by omega, rfl, World.ownsRow_nil _ _ _ _, Below.refl _ _⟩
  case round =>
    obtain ⟨k, hk, rfl, ho, hb⟩ := hrel
    have O := Lib.hid ho; have D4 := Lib.hid hb; clear ho hb
    have DK := Lib.hid (gr_tr D3.out D4.out)
    by_cases hlt : k < 512
    · obtain ⟨y, hy⟩ : ∃ y, (a ++ b)[k]? = some y := ⟨_, List.getElem?_eq_getElem (by rw [FLN.out]; exact hlt)⟩
      obtain ⟨g, o, rfl, c0⟩ := (ROW.out.below D4.out).at (i := k) (v := .int .u32 (uv y)) (c32_get _ _ _ hy)
      have HS := Lib.hid (show fl32 ((a ++ b).take (k + 1)) = fl32 ((a ++ b).take k) ++ [(y.setWidth 64, 4)] by
        obtain ⟨h5, rfl⟩ := List.getElem?_eq_some_iff.1 hy
        rw [List.take_succ_eq_append_getElem h5, fl32_snoc])
      have HWW := Lib.hid (uw32 y)
      have hk1 : (k : Int) < 512 := by omega
      clear hy
      go_wp2_with (first
        | (go_at_call 100; go_loud (refine (f_any _ 4 _).mono ?_; rintro r w1 ⟨rfl, hw⟩; have D5 := Lib.hid (gr_tr D4.out hw); have O1 := Lib.hid (own_below O.out hw); clear hw))
        | (at_builtin; rw [← HWW.out]; refine app_field rfl (.tmp 17) (.tmp 21) rfl _ W3.heap.size k (fl32 ((a ++ b).take k)) rfl O1.out D5.out.size (y.setWidth 64, 4) _ rfl (by omega) ?_; intro v2 w2 ho hb; have O2 := Lib.hid ho; have DB := Lib.hid (D5.out.trans hb); clear ho hb))
      go_roundw
      case rel => exact ⟨k + 1, by omega, by go_num, by rw [HS.out]; exact O2.out, DB.out⟩
      case measure => simp [intOf]; omega
    · obtain rfl : k = 512 := by omega
      have FV := Lib.hid (show FieldsV wr u5 (fl32 (a ++ b)) from FieldsV.own (by rw [fl32_n, FLN.out]) (by have := O.out; rwa [List.take_of_length_le (by rw [FLN.out]; exact Nat.le_refl _)] at this))
      go_wp2_with (go_at_call 101; go_loud (refine (page_any 4096 4096 _ (fl32 (a ++ b)) B _ rfl FV.out (by rw [fl32_n, FLN.out]; decide) (fl32_e _) (by omega) (by rw [nsBL_cat, FLN.out]; decide) HB.out).mono ?_; rintro r w3 ⟨u3, rfl, ho, hw⟩; have V3 := Lib.hid (own_base ho DK.out.size); have DF := Lib.hid (gr_tr DK.out hw); clear ho hw))
      go_ret
      exact ⟨_, rfl, V3.out, DF.out⟩
end Go.Proofs.YthnnopjakpjoeaaDoor
namespace Go.Proofs.YthnnopjakpjoeaaDoor
open Go.RowKit Lg
set_option linter.unusedVariables false
set_option linter.unusedSimpArgs false
theorem Keep.chgE {B C : Nat → Prop} {w x x' : World} (h : Keep B w x) (c : Chg C x x') (hr : ∀ k, C k → B k ∨ w.heap.size ≤ k) : Keep B w x' := by
  obtain ⟨y, rfl⟩ := h
  refine ⟨⟨x', Nat.le_trans y.size c.size, fun k hk hn => ?_⟩, rfl⟩
  refine (c.block k (Nat.lt_of_lt_of_le hk y.size) (fun e => ?_)).trans (y.block k hk hn)
  rcases hr k e with h | h
  · exact hn h
  · omega
def txtCells (X : Nat) : Array Value := #[.pointer (some ⟨X, 22, none⟩), .int .i64 4, .int .i64 20, .int .i64 20, .pointer (some ⟨X, 23, none⟩), .int .i64 24, .int .i64 40, .int .i64 40, .pointer (some ⟨X, 24, none⟩), .int .i64 64, .int .i64 8, .int .i64 8, .pointer (some ⟨X, 25, none⟩), .int .i64 768, .int .i64 256, .int .i64 223]
theorem z512 : Tryd.zeroCells207 = (c32 (List.replicate 512 0#32)).toArray := by kernel_rfl
theorem z256 : Tryd.zeroCells105 = (c32 (List.replicate 256 0#32)).toArray := by kernel_rfl
namespace Lg
/-- What is held when k dwords have been read. -/
def efA (l : List (BitVec 8)) (k : Nat) : Array Value := (c32 (nsN l k ++ List.replicate (512 - k) 0#32)).toArray
theorem efA_zero (l : List (BitVec 8)) : efA l 0 = Tryd.zeroCells207 := by
  rw [z512]; unfold efA
  rw [show nsN l 0 = [] from rfl, List.nil_append]
theorem efA_size (l : List (BitVec 8)) (k : Nat) (hk : k ≤ 512) : (efA l k).size = 512 := by
  unfold efA
  rw [List.size_toArray, c32_length, List.length_append, nsN_len, List.length_replicate]; omega
theorem c32_all (l : List (BitVec 32)) : (c32 l).toArray.all (·.oneCell') = true := by
  rw [List.all_toArray, List.all_eq_true]; exact c32_one l
theorem efA_set (l : List (BitVec 8)) (k : Nat) (x : BitVec 32) (hk : k < 512) (hx : (num l (4 * k) 4).setWidth 32 = x) : (efA l k).setIfInBounds k (.int .u32 (uv x)) = efA l (k + 1) := by
  unfold efA
  rw [List.setIfInBounds_toArray]
  refine congrArg List.toArray ?_
  unfold c32
  rw [show Value.int .u32 (uv x) = (fun y : BitVec 32 => Value.int .u32 (uv y)) x from rfl, ← List.map_set, nsN_more, hx, show 512 - k = (512 - (k + 1)) + 1 by omega, List.replicate_succ, List.set_append_right _ _ (by rw [nsN_len]; exact Nat.le_refl _), nsN_len, Nat.sub_self, List.append_assoc]; rfl
theorem efA_get (l : List (BitVec 8)) (k : Nat) (hk : k < 512) : (efA l k)[k]? = some (.int .u32 0) := by
  unfold efA
  rw [List.getElem?_toArray]
  refine (c32_get _ k 0#32 ?_).trans rfl
  rw [List.getElem?_append_right (by rw [nsN_len]; exact Nat.le_refl _), nsN_len, Nat.sub_self, List.getElem?_replicate, if_pos (by omega)]
theorem efA_all (l : List (BitVec 8)) : efA l 512 = (c32 (nsN l 512)).toArray := by
  unfold efA; rw [Nat.sub_self, List.replicate_zero, List.append_nil]
/-- Both effects as one list. -/
structure Eff where
  v : List (BitVec 32)
def Eff.cells (x : Eff) : List Value := c32 x.v
def effRd (l : List (BitVec 8)) : Eff := ⟨nsN l 512⟩
def effZ : Eff := ⟨List.replicate 512 0#32⟩
def effOk (x : Eff) : Bool := x.v.length == 512
def effB (x : Eff) : List (BitVec 8) := nsBL x.v
def effE (x : Eff) : Int := if effOk x then 0 else 2
def effR (x : Eff) : List (BitVec 8) := if effOk x then effB x else []
def effOkB (l : List (BitVec 8)) : Bool := effOk (effRd l) && (effB (effRd l) == l)
theorem effRd_len (l : List (BitVec 8)) : (effRd l).v.length = 512 := by unfold effRd; dsimp only; rw [nsN_len]
theorem effZ_v : effZ.v = List.replicate 512 0#32 := by unfold effZ; dsimp only
theorem effZ_len : effZ.v.length = 512 := by rw [effZ_v, List.length_replicate]
theorem eff_dec_len {f : List (BitVec 8) → Bool} {l : List (BitVec 8)} {y : Eff} {e : Int} (h : decP 4096 effRd f effZ l = (y, e)) : y.v.length = 512 := by
  unfold decP at h
  repeat' (split at h)
  all_goals (injection h with h1 h2; rw [← h1])
  all_goals first | (with_reducible exact effRd_len l) | (with_reducible exact effZ_len)
theorem eff_size (x : Eff) (h : x.v.length = 512) : (Eff.cells x).toArray.size = 512 := by
  rw [List.size_toArray]; unfold Eff.cells; rw [c32_length, h]
theorem eff_ok (l : List (BitVec 8)) (h : l.length = 4096) : effOkB l = allZ (l.drop 2048) := by
  have e : effOk (effRd l) = true := by unfold effOk; rw [effRd_len]; rfl
  unfold effOkB
  rw [e, Bool.true_and]
  unfold effB effRd
  dsimp only
  exact nsN_back l h 512 (by omega)
end Lg
theorem rd_chgE {w w' : World} {T : TypeId} {r d Y : Nat} {v : Value} {l : List (BitVec 8)} {n : Nat} (h : RdAt w T r d v l n) (c : Chg (fun b => b = Y) w w') (hY : r < Y) : RdAt w' T r d v l n :=
  ⟨c.blk h.blk (by omega), h.bytes.chg c (fun g o m k e hg => by have h1 := h.old ⟨g, o, none⟩ m k e; have h2 := h.le; simp only at h1; omega), h.small, h.old, h.le⟩
set_option maxHeartbeats 3200000 in
set_option maxRecDepth 20000 in
theorem readEf_at {d : Nat} (p : Nat) (v : Value) (l : List (BitVec 8)) (w : World) (hp : RdAt w 287 p d v l 0) (hl : l.length = 4096) :
    Calls Tryd.prog 114 #[.pointer (some ⟨p, 0, none⟩)] w fun e w' => e = .returned (.agg (Eff.cells (effRd l)).toArray) ∧ Chg (fun b => b = p) w w' := by
  have A0 := Lib.hid (efA_zero l)
  have AS := Lib.hid (fun (k : Nat) (x : BitVec 32) (hk : k < 512) (hx : (num l (4 * k) 4).setWidth 32 = x) => efA_set l k x hk hx)
  have AG := Lib.hid (fun (k : Nat) (hk : k < 512) => efA_get l k hk)
  have AZ := Lib.hid (efA_size l 512 (Nat.le_refl _))
  have AO := Lib.hid (show (efA l 512).all (·.oneCell') = true by rw [efA_all]; exact c32_all _)
  have AE := Lib.hid (efA_all l)
  rw [show (Eff.cells (effRd l)).toArray = efA l 512 from (efA_all l).symm]
  obtain ⟨A, hA⟩ : ∃ A, efA l = A := ⟨_, rfl⟩
  rw [hA] at A0 AS AG AZ AO
  rw [hA]
  clear hA AE
  have HL := Lib.hid hl
  have PLT := Lib.hid hp.lt
  obtain ⟨w0, hW⟩ : ∃ W, W = w.alloc (.cells Tryd.zeroCells207 207) := ⟨_, rfl⟩
  have D := Lib.hid (show Below w.heap.size w w0 by rw [hW]; exact gr_alloc w _)
  have X0 := Lib.hid (show w0.heap[w.heap.size]? = some (.cells (A 0) 207 (0, 0)) by rw [hW, A0.out]; exact heap_alloc_new w _)
  have R0 := Lib.hid (show RdAt w0 287 p d v (l.drop 0) 0 by rw [List.drop_zero]; exact hp.below D.out)
  have NP := Lib.hid (show ¬ w.heap.size = p by have := PLT.out; omega)
  have HW := Lib.hid hW
  clear hl hp hW
  go_enter Tryd.func114, Tryd.ntmps114
  go_upto_region 1 with (fail)
  rw [← HW.out]
  have CC0 := Lib.hid (Chg.of_below (B := fun b => b = p) D.out)
  go_upto_region 2 with (fail)
  go_loopw [4] (fun i wr => ∃ k : Nat, k ≤ 512 ∧ i = .int .i64 k ∧ (∃ vk, RdAt wr 287 p d vk (l.drop (4 * k)) (4 * k)) ∧ Chg (fun b => b = p) w wr ∧ wr.heap[w.heap.size]? = some (.cells (A k) 207 (0, 0))) (fun i _ => 512 - (intOf i).toNat)
  case atStart => exact ⟨0, by omega, rfl, ⟨_, R0.out⟩, CC0.out, X0.out⟩
  case round =>
    obtain ⟨k, hk, rfl, ⟨va, hr⟩, hb, hx⟩ := hrel
    have Ra := Lib.hid hr; have Ca := Lib.hid hb; have Xa := Lib.hid hx; clear hr hb hx
    by_cases hlt : k < 512
    · obtain ⟨x, hx⟩ : ∃ x, num l (4 * k) 4 = x := ⟨_, rfl⟩
      have HX := Lib.hid hx
      have SS := Lib.hid (AS.out k (x.setWidth 32) hlt (by rw [hx]))
      obtain ⟨a, ha⟩ : ∃ a, k / 256 = a := ⟨_, rfl⟩
      obtain ⟨b, hb⟩ : ∃ b, k % 256 = b := ⟨_, rfl⟩
      have hab : a * 256 + b = k := by omega
      have HAB := Lib.hid hab
      have hk1 : (k : Int) < 512 := by omega
      have hk0 : (0 : Int) ≤ (k : Int) := by omega
      have hq1 : (k : Int).tdiv 256 = (a : Int) := by rw [← ha]; rfl
      have hq2 : (k : Int) / 256 = (a : Int) := by rw [← ha]; rfl
      have hq3 : (k : Int).tmod 256 = (b : Int) := by rw [← hb]; rfl
      have hq4 : (k : Int) % 256 = (b : Int) := by rw [← hb]; rfl
      have ha0 : (0 : Int) ≤ (a : Int) := by omega
      have ha2 : (a : Int) < 2 := by omega
      have hb0 : (0 : Int) ≤ (b : Int) := by omega
      have hb2 : (b : Int) < 256 := by omega
      have hwa : IntKind.i64.wrap (a : Int) = (a : Int) := by rw [IntKind.wrap_i64]; omega
      have hwb : IntKind.i64.wrap (b : Int) = (b : Int) := by rw [IntKind.wrap_i64]; omega
      clear hx ha hb
      go_upto_region 4 with (fail)
      refine wp_region_planW (fun z => z = p ∨ z = w.heap.size) [(true, 0), (true, 1), (true, 2), (true, 3), (true, 4), (true, 7), (false, 5), (true, 6), (true, 8), (false, 9)] (by kernel_rfl) (by kernel_rfl) (by intro c a d v w h; cases d <;> exact h) ?_
      intro W1 K1 C1
      repeat (refine wpS_firm rfl (fun K hK => ?_); simp only [Keep]; go_simp; refine hK _ ?_; clear hK K)
      refine wpS_chain rfl ?_
      go_wp2_with (go_at_call 104; go_loud (refine (next_at p va l (4 * k) (4 * k) 4 4 x W1 rfl (Ra.out.below C1.out) (by decide) (by decide) (by rw [HL.out]; omega) HX.out).mono ?_; rintro r W2 ⟨rfl, ⟨v2, hr⟩, hc⟩; have R2 := Lib.hid hr; have C2 := Lib.hid ((Ca.out.trans (Chg.of_below C1.out)).trans hc); have X2 := Lib.hid (hc.blk (blk_below Xa.out C1.out) NP.out); have K2 := Lib.hid (K1.out.chgE hc (fun k hk => .inl (.inl hk))); clear hr hc))
      refine ⟨K2.out, ?_⟩
      repeat (refine wpS_firm rfl (fun K hK => ?_); simp only [Keep]; go_simp; refine hK _ ?_; clear hK K)
      refine wpS_chain rfl ?_
      have yk : W2.cell? ⟨w.heap.size, k, none⟩ = some (.int .u32 0) := (cell_of_row _ _ _ _ _ _ X2.out).trans (AG.out k hlt)
      have fk := frozen_of_row _ _ k _ _ X2.out
      go_wp2
      obtain ⟨W3, hW3⟩ : ∃ z, z = W2.setCell ⟨w.heap.size, k, none⟩ (.int .u32 (uv (x.setWidth 32))) := ⟨_, rfl⟩
      have cc : Chg (fun b => b = w.heap.size) W2 W3 := by rw [hW3]; exact Chg.setCell (B := fun b => b = w.heap.size) (p := ⟨w.heap.size, k, none⟩) _ rfl _
      have X3 := Lib.hid (show W3.heap[w.heap.size]? = some (.cells (A (k + 1)) 207 (0, 0)) by rw [hW3, ← SS.out]; exact heap_setCell_same _ _ _ _ _ _ X2.out)
      have C3 := Lib.hid (chg_newer C2.out cc (fun g hg => by subst hg; exact Nat.le_refl _))
      have R3 := Lib.hid (rd_chgE R2.out cc PLT.out)
      have K3 := Lib.hid (K2.out.chgE cc (fun k hk => .inl (.inr hk)))
      rw [← hW3]
      clear hW3 cc yk fk
      refine ⟨K3.out, ?_⟩
      unfold wpS
      go_wp2
      go_roundw
      case rel => exact ⟨k + 1, by omega, by go_num, ⟨_, by have h := R3.out; rwa [show 4 * k + 4 = 4 * (k + 1) by omega] at h⟩, C3.out, X3.out⟩
      case measure => simp [intOf]; omega
    · obtain rfl : k = 512 := by omega
      go_wp2_with (first
        | (refine wpList_load_row rfl 207 (.tmp 2) rfl w.heap.size rfl 207 (A 512) (0, 0) _ Xa.out Tryd.underlying207 rfl (by rw [AZ.out]; kernel_rfl) ?_)
        | (refine wpList_store_row rfl 207 (.tmp 2) (.tmp 17) rfl w.heap.size (A 512) rfl rfl 207 _ Xa.out (by rw [AZ.out]; kernel_rfl) (by rw [AZ.out]) AO.out ?_))
      exact bodyPost_ret (results_cell_row rfl _ _ w.heap.size 207 _ (0, 0) _ rfl (setRow_heap _ _ _ _ _ _ Xa.out) Tryd.underlying207 rfl (by rw [AZ.out]; kernel_rfl)) rfl ⟨rfl, chg_newer Ca.out (Chg.setRow (B := fun b => b = w.heap.size) wr rfl _) (fun g hg => by subst hg; exact Nat.le_refl _)⟩
theorem keep_rng {B : Nat → Prop} {w x : World} {g o : Nat} {cs : List Value} (h : Keep B w x) (hr : w.rangeAt g o cs) (hn : ¬ B g) : x.rangeAt g o cs := by
  obtain ⟨y, rfl⟩ := h
  intro j v hj
  exact y.cell (hr j v hj) hn
theorem rng_take {w : World} {g : Nat} {l : List (BitVec 32)} {t : TypeId} (h : w.heap[g]? = some (.cells (c32 l).toArray t (0, 0))) (o n : Nat) : w.rangeAt g o (c32 ((l.drop o).take n)) := fun j v hv => by
  unfold c32 at hv
  rw [List.getElem?_map] at hv
  obtain ⟨x, hx, rfl⟩ := Option.map_eq_some_iff.1 hv
  have hj : j < n := by
    have := (List.getElem?_eq_some_iff.1 hx).1
    rw [List.length_take] at this; omega
  rw [List.getElem?_take_of_lt hj, List.getElem?_drop] at hx
  refine (cell_of_row _ _ (o + j) _ _ _ h).trans ?_
  rw [List.getElem?_toArray]
  exact c32_get l (o + j) x hx
theorem results_row_row_tmp {P : Program} {fn : Func} {p p2 u : Tmp} {ty : TypeId} (h : fn.results = #[.cell p ty, .cell p2 ty, .tmp u]) (tmps : Array Value) (w : World) (g g2 : Nat) (t t2 : TypeId) (cs cs2 : Array Value) (fr fr2 : Nat × Nat) (d : TypeDesc)
    (hp : tmps.getD p undef = .pointer (some ⟨g, 0, none⟩)) (hg : w.heap[g]? = some (.cells cs t fr)) (hp2 : tmps.getD p2 undef = .pointer (some ⟨g2, 0, none⟩)) (hg2 : w.heap[g2]? = some (.cells cs2 t2 fr2))
    (hu : P.underlying ty = some d) (hd : (match d with | .struct _ | .array _ _ => true | _ => false) = true) (hi : (P.info? ty).map (·.size) = some cs.size) (hi2 : (P.info? ty).map (·.size) = some cs2.size) :
    (results fn tmps).run P w = .ok (.tuple #[.agg cs, .agg cs2, tmps.getD u undef]) w := by
  have hp' : tmps[p]?.getD undef = .pointer (some ⟨g, 0, none⟩) := by simpa using hp
  have hp2' : tmps[p2]?.getD undef = .pointer (some ⟨g2, 0, none⟩) := by simpa using hp2
  simp [results, h, hp', hp2', asAddr, run_loadVar_row w g t ty cs fr d hg hu hd hi, run_loadVar_row w g2 t2 ty cs2 fr2 d hg2 hu hd hi2]
theorem wpS_load_midE {P : Program} {ops : Array Oper} {Q : Exit → Act → World → Prop} {S : World → Prop} {a : Act} {w : World} {i : Nat} {r : List (Bool × Nat)} {o : Oper} (ho : ops[i]? = some o) (hw : Region.wanted o (yielded ops a.tmps) = true) (ty : TypeId) (x : Operand) (hop : o.op = .load ty x)
    (g f : Nat) (hx : a.eval x = .pointer (some ⟨g, f, none⟩)) (cs : List Value) (d : TypeDesc) (hg : ∀ x, S x → x.rangeAt g f cs)
    (hu : P.underlying ty = some d) (hd : d.isRow = true) (hi : (P.info? ty).map (·.size) = some cs.length)
    (h : wpS P ops Q S r (a.put o.dst (.agg cs.toArray)) w) : wpS P ops Q S ((true, i) :: r) a w := by
  refine ⟨o, ho, ?_⟩
  rw [if_pos hw]
  refine ⟨.agg cs.toArray, fun x hS => ?_, h⟩
  unfold execOp
  simp only [hop, hx, Instr.loadAt, Instr.sureAddr, Sem.run_bind, Sem.run_pure, Result.andThen_ok, run_loadVar_mid x g f ty cs d (hg x hS) hu hd hi]
set_option maxHeartbeats 1600000 in
set_option maxRecDepth 20000 in
theorem EncEf2_at (x : Eff) (e : Int) (B : List (BitVec 8)) (w : World) (hx : x.v.length = 512) (he : effE x = e) (hB : effR x = B) :
    Calls Tryd.prog 115 #[.agg (Eff.cells x).toArray] w fun r w' => ∃ u, r = .returned (.tuple #[u, .int .i64 e]) ∧ w'.ownsRow w.heap.size 5 1 u B.length (by8 B) ∧ Below w.heap.size w w' := by
  have ho : effOk x = true := by unfold effOk; rw [hx]; rfl
  unfold effE at he
  unfold effR at hB
  rw [ho] at he hB
  simp only [if_true] at he hB
  subst he
  have LT := Lib.hid (show (x.v.take 256).length = 256 by rw [List.length_take, hx]; rfl)
  have LD := Lib.hid (show (x.v.drop 256).length = 256 by rw [List.length_drop, hx])
  have EN := Lib.hid (fun w => EncEf_at (x.v.take 256) (x.v.drop 256) B w LT.out LD.out (by unfold efB; rw [List.take_append_drop]; exact hB))
  obtain ⟨W, hW⟩ : ∃ W, W = w.alloc (.cells (Eff.cells x).toArray 207) := ⟨_, rfl⟩
  have D := Lib.hid (show Below w.heap.size w W by rw [hW]; exact gr_alloc w _)
  have X := show W.heap[w.heap.size]? = some (.cells (c32 x.v).toArray 207 (0, 0)) by rw [hW]; exact heap_alloc_new w _
  have RA := Lib.hid (show W.rangeAt w.heap.size 0 (c32 (x.v.take 256)) from rng_take X 0 256)
  have RB := Lib.hid (show W.rangeAt w.heap.size 256 (c32 (x.v.drop 256)) by
    have h := rng_take X 256 256
    rw [List.take_of_length_le (by rw [LD.out]; exact Nat.le_refl _)] at h; exact h)
  obtain ⟨cx, hcx⟩ : ∃ c, (Eff.cells x).toArray = c := ⟨_, rfl⟩
  obtain ⟨la, hla⟩ : ∃ c, x.v.take 256 = c := ⟨_, rfl⟩
  obtain ⟨lb, hlb⟩ : ∃ c, x.v.drop 256 = c := ⟨_, rfl⟩
  rw [hla] at LT RA EN; rw [hlb] at LD RB EN
  rw [hcx] at hW ⊢
  have HW := Lib.hid hW
  clear hW hcx hx hB ho X hla hlb
  go_enter Tryd.func115, Tryd.ntmps115
  go_upto_region 1 with (fail)
  first
    | rw [← HW.out]
    | (show Code.wp _ _ _ _ (w.alloc (.cells cx 207)); rw [← HW.out])
  go_wp2_with (first
    | (refine wpList_load_mid rfl 105 (.tmp 4) rfl w.heap.size 0 rfl (c32 la) _ RA.out Tryd.underlying105 rfl (by rw [c32_length, LT.out]; kernel_rfl) ?_)
    | (refine wpList_load_mid rfl 105 (.tmp 6) rfl w.heap.size 256 rfl (c32 lb) _ RB.out Tryd.underlying105 rfl (by rw [c32_length, LD.out]; kernel_rfl) ?_)
    | (go_at_call 48; go_loud (refine (EN.out _).mono ?_; rintro r w3 ⟨u3, rfl, ho, hw⟩; have V3 := Lib.hid (own_base ho D.out.size); have D3 := Lib.hid (gr_tr D.out hw); clear ho hw)))
  go_ret2
  exact ⟨_, rfl, V3.out, D3.out⟩
theorem eff_zero : (Eff.cells effZ).toArray = Tryd.zeroCells207 := by rw [z512]; unfold Eff.cells; rw [effZ_v]
theorem zone512 : (Tryd.zeroCells207).all (·.oneCell') = true := by rw [z512]; exact c32_all _
set_option maxHeartbeats 3200000 in
set_option maxRecDepth 20000 in
theorem decoded_Eff (l : List (BitVec 8)) (bv : Value) (w : World) (y : Eff) (e : Int) (hb : BytesV w bv l) (hl : l.length ≤ 140737488355328) (hd : decP 4096 effRd effOkB effZ l = (y, e)) :
    Calls Tryd.prog 113 #[bv, .int .i64 4096, .func (.func 114) #[] #[], .func (.func 115) #[] #[]] w fun r w' => r = .returned (.tuple #[.agg (Eff.cells y).toArray, .int .i64 e]) ∧ Below w.heap.size w w' := by
  obtain ⟨av, cv, rfl, hv0, hv1, hv2, hv3⟩ := id hb
  have hm : l.length ≤ 9223372036854775807 := by omega
  have BV := Lib.hid hb
  have HLL := Lib.hid hl
  obtain ⟨V, hV⟩ : ∃ V, V = w.alloc (.cells Tryd.zeroCells207 207) := ⟨_, rfl⟩
  have DV := Lib.hid (show Below w.heap.size w V by rw [hV]; exact gr_alloc w _)
  have XV := Lib.hid (show V.heap[w.heap.size]? = some (.cells Tryd.zeroCells207 207 (0, 0)) by rw [hV]; exact heap_alloc_new w _)
  have VS := Lib.hid (show w.heap.size < V.heap.size by rw [hV]; simp)
  have HV := Lib.hid hV
  have ZS := Lib.hid (show (Eff.cells effZ).toArray = Tryd.zeroCells207 from eff_zero)
  clear hb hv0 hv1 hv2 hv3 hV hl
  unfold decP at hd
  by_cases p1 : l.length < 4096
  · rw [if_pos p1] at hd
    cases hd
    rw [ZS.out]
    have d1 : decide ((l.length : Int) < 4096) = true := decide_eq_true (by omega)
    have d1b : decide (l.length < 4096) = true := decide_eq_true (by omega)
    clear p1
    go_enter Tryd.func113, Tryd.ntmps113
    go_upto_region 1 with (fail)
    rw [← HV.out]
    go_wp2_with (first
      | (refine wpList_load_row rfl 207 (.tmp 8) rfl w.heap.size rfl 207 Tryd.zeroCells207 (0, 0) _ XV.out Tryd.underlying207 rfl (by kernel_rfl) ?_)
      | (refine wpList_store_row rfl 207 (.tmp 8) (.tmp 18) rfl w.heap.size Tryd.zeroCells207 rfl rfl 207 _ XV.out (by kernel_rfl) rfl zone512 ?_))
    exact bodyPost_ret (results_row_tmp rfl _ _ w.heap.size 207 Tryd.zeroCells207 (0, 0) _ rfl (setRow_heap _ _ _ _ _ _ XV.out) Tryd.underlying207 rfl (by kernel_rfl)) rfl ⟨rfl, below_setRow DV.out (Nat.le_refl _) _⟩
  rw [if_neg p1] at hd
  have d1 : decide ((l.length : Int) < 4096) = false := decide_eq_false (by omega)
  have d1b : decide (l.length < 4096) = false := decide_eq_false (by omega)
  by_cases p2 : 4096 < l.length
  · rw [if_pos p2] at hd
    cases hd
    rw [ZS.out]
    have d2 : decide (4096 < (l.length : Int)) = true := decide_eq_true (by omega)
    have d2b : decide (4096 < l.length) = true := decide_eq_true (by omega)
    clear p1 p2
    go_enter Tryd.func113, Tryd.ntmps113
    go_upto_region 1 with (fail)
    rw [← HV.out]
    go_wp2_with (first
      | (refine wpList_load_row rfl 207 (.tmp 8) rfl w.heap.size rfl 207 Tryd.zeroCells207 (0, 0) _ XV.out Tryd.underlying207 rfl (by kernel_rfl) ?_)
      | (refine wpList_store_row rfl 207 (.tmp 8) (.tmp 24) rfl w.heap.size Tryd.zeroCells207 rfl rfl 207 _ XV.out (by kernel_rfl) rfl zone512 ?_))
    exact bodyPost_ret (results_row_tmp rfl _ _ w.heap.size 207 Tryd.zeroCells207 (0, 0) _ rfl (setRow_heap _ _ _ _ _ _ XV.out) Tryd.underlying207 rfl (by kernel_rfl)) rfl ⟨rfl, below_setRow DV.out (Nat.le_refl _) _⟩
  rw [if_neg p2] at hd
  have d2 : decide (4096 < (l.length : Int)) = false := decide_eq_false (by omega)
  have d2b : decide (4096 < l.length) = false := decide_eq_false (by omega)
  have HL := Lib.hid (show l.length = 4096 by omega)
  have HD := Lib.hid hd
  clear p1 p2 hd
  obtain ⟨x, hx⟩ : ∃ x, effRd l = x := ⟨_, rfl⟩
  have HX := Lib.hid hx
  obtain ⟨cx, hcx⟩ : ∃ c, (Eff.cells x).toArray = c := ⟨_, rfl⟩
  have HCX := Lib.hid hcx
  have SZX := Lib.hid (show cx.size = 512 by rw [← hcx]; exact eff_size x (by rw [← hx]; exact effRd_len l))
  have ONX := Lib.hid (show cx.all (·.oneCell') = true by rw [← hcx]; exact c32_all _)
  clear hx hcx
  obtain ⟨bo, hbo⟩ : ∃ b, effOk x = b := ⟨_, rfl⟩
  have HO := Lib.hid hbo; clear hbo
  go_enter Tryd.func113, Tryd.ntmps113
  go_upto_region 1 with (fail)
  rw [← HV.out]
  go_upto_region 6 with (first
    | (go_at_call 149; go_loud (refine (NewReader_any _ l _ (BV.out.below DV.out) HLL.out).mono ?_; rintro r w1 ⟨p, v, rfl, hp, hr, hw⟩; have HP := Lib.hid hp; have R := Lib.hid hr; have D1 := Lib.hid (gr_tr DV.out hw); have DW := Lib.hid hw; clear hp hr hw))
    | (go_at_call 114; go_loud (refine (readEf_at p v l _ R.out HL.out).mono ?_; rw [HX.out, HCX.out]; rintro r w2 ⟨rfl, hc⟩; have D2 := Lib.hid (hc.fresh D1.out (fun k hk => by have h1 := HP.out; have h2 := VS.out; subst hk; omega)); have X2 := Lib.hid (hc.blk (blk_below XV.out DW.out) (fun hk => by have h1 := HP.out; have h2 := VS.out; subst hk; omega)); clear hc))
    | (refine wpList_store_new rfl 207 (.tmp 10) (.tmp 28) rfl cx 207 _ rfl rfl (by rw [SZX.out]; kernel_rfl) (by rw [SZX.out]; rfl) ONX.out ?_; intro w3 hh hw; have Y3 := Lib.hid hh; have D3 := Lib.hid (gr_tr D2.out hw); have X3 := Lib.hid (blk_below X2.out hw); clear hh hw))
  clear d1 d1b d2 d2b
  have B3 := Lib.hid (BV.out.below D3.out)
  cases bo
  · have ENC := fun w => EncEf2_at x 2 [] w (by rw [← HX.out]; exact effRd_len l) (by unfold effE; rw [HO.out]; rfl) (by unfold effR; rw [HO.out]; rfl)
    rw [HCX.out] at ENC
    go_wp2_with (first
      | (refine wpList_load_row rfl 207 (.tmp 10) rfl w2.heap.size rfl 207 cx (0, 0) _ Y3.out Tryd.underlying207 rfl (by rw [SZX.out]; kernel_rfl) ?_)
      | (go_at_call 115; go_loud (refine (ENC _).mono ?_; rintro r w4 ⟨u, rfl, hu, hw⟩; have D4 := Lib.hid (gr_tr D3.out hw); have X4 := Lib.hid (blk_below X3.out hw); clear hu hw))
      | (refine wpList_load_row rfl 207 (.tmp 8) rfl w.heap.size rfl 207 Tryd.zeroCells207 (0, 0) _ X4.out Tryd.underlying207 rfl (by kernel_rfl) ?_)
      | (refine wpList_store_row rfl 207 (.tmp 8) (.tmp 43) rfl w.heap.size Tryd.zeroCells207 rfl rfl 207 _ X4.out (by kernel_rfl) rfl zone512 ?_))
    obtain ⟨e1, e2⟩ : y = effZ ∧ e = 6 := by
      have h := HD.out
      unfold effOkB at h
      rw [HX.out, HO.out] at h
      simp at h
      exact ⟨h.1.symm, h.2.symm⟩
    rw [e1, e2, ZS.out]
    exact bodyPost_ret (results_row_tmp rfl _ _ w.heap.size 207 Tryd.zeroCells207 (0, 0) _ rfl (setRow_heap _ _ _ _ _ _ X4.out) Tryd.underlying207 rfl (by kernel_rfl)) rfl ⟨rfl, below_setRow D4.out (Nat.le_refl _) _⟩
  have ENC := fun w => EncEf2_at x 0 (effB x) w (by rw [← HX.out]; exact effRd_len l) (by unfold effE; rw [HO.out]; rfl) (by unfold effR; rw [HO.out]; rfl)
  rw [HCX.out] at ENC
  obtain ⟨bq, hbq⟩ : ∃ b, (effB x == l) = b := ⟨_, rfl⟩
  have HQ := Lib.hid hbq; clear hbq
  obtain ⟨NB, hNB⟩ : ∃ B, effB x = B := ⟨_, rfl⟩
  rw [hNB] at ENC
  have HNB := Lib.hid hNB
  clear hNB
  cases bq
  · have HQN := Lib.hid (show (NB == l) = false by rw [← HNB.out]; exact HQ.out)
    go_wp2_with (first
      | (refine wpList_load_row rfl 207 (.tmp 10) rfl w2.heap.size rfl 207 cx (0, 0) _ Y3.out Tryd.underlying207 rfl (by rw [SZX.out]; kernel_rfl) ?_)
      | (go_at_call 115; go_loud (refine (ENC _).mono ?_; rintro r w4 ⟨u, rfl, hu, hw⟩; have U := Lib.hid (BytesV.of_own hu); have B4 := Lib.hid (B3.out.below hw); have D4 := Lib.hid (gr_tr D3.out hw); have X4 := Lib.hid (blk_below X3.out hw); clear hu hw))
      | (go_at_call 128; go_loud (refine (eqB_at _ _ _ _ _ _ U.out B4.out HQN.out).mono ?_; rintro r w5 ⟨rfl, rfl⟩))
      | (refine wpList_load_row rfl 207 (.tmp 8) rfl w.heap.size rfl 207 Tryd.zeroCells207 (0, 0) _ X4.out Tryd.underlying207 rfl (by kernel_rfl) ?_)
      | (refine wpList_store_row rfl 207 (.tmp 8) (.tmp 43) rfl w.heap.size Tryd.zeroCells207 rfl rfl 207 _ X4.out (by kernel_rfl) rfl zone512 ?_))
    obtain ⟨e1, e2⟩ : y = effZ ∧ e = 6 := by
      have h := HD.out
      unfold effOkB at h
      rw [HX.out, HO.out, HQ.out] at h
      simp at h
      exact ⟨h.1.symm, h.2.symm⟩
    rw [e1, e2, ZS.out]
    exact bodyPost_ret (results_row_tmp rfl _ _ w.heap.size 207 Tryd.zeroCells207 (0, 0) _ rfl (setRow_heap _ _ _ _ _ _ X4.out) Tryd.underlying207 rfl (by kernel_rfl)) rfl ⟨rfl, below_setRow D4.out (Nat.le_refl _) _⟩
  · have HQN := Lib.hid (show (NB == l) = true by rw [← HNB.out]; exact HQ.out)
    go_wp2_with (first
      | (refine wpList_load_row rfl 207 (.tmp 10) rfl w2.heap.size rfl 207 cx (0, 0) _ Y3.out Tryd.underlying207 rfl (by rw [SZX.out]; kernel_rfl) ?_)
      | (go_at_call 115; go_loud (refine (ENC _).mono ?_; rintro r w4 ⟨u, rfl, hu, hw⟩; have U := Lib.hid (BytesV.of_own hu); have B4 := Lib.hid (B3.out.below hw); have D4 := Lib.hid (gr_tr D3.out hw); have X4 := Lib.hid (blk_below X3.out hw); have Y4 := Lib.hid (blk_below Y3.out hw); clear hu hw))
      | (go_at_call 128; go_loud (refine (eqB_at _ _ _ _ _ _ U.out B4.out HQN.out).mono ?_; rintro r w5 ⟨rfl, rfl⟩))
      | (refine wpList_load_row rfl 207 (.tmp 10) rfl w2.heap.size rfl 207 cx (0, 0) _ Y4.out Tryd.underlying207 rfl (by rw [SZX.out]; kernel_rfl) ?_)
      | (refine wpList_store_row rfl 207 (.tmp 8) (.tmp 44) rfl w.heap.size cx rfl rfl 207 _ X4.out (by rw [SZX.out]; kernel_rfl) (by rw [SZX.out]; rfl) ONX.out ?_))
    obtain ⟨e1, e2⟩ : y = x ∧ e = 0 := by
      have h := HD.out
      unfold effOkB at h
      rw [HX.out, HO.out, HQ.out] at h
      simp at h
      exact ⟨h.1.symm, h.2.symm⟩
    rw [e1, e2, HCX.out]
    exact bodyPost_ret (results_row_tmp rfl _ _ w.heap.size 207 cx (0, 0) _ rfl (setRow_heap _ _ _ _ _ _ X4.out) Tryd.underlying207 rfl (by rw [SZX.out]; kernel_rfl)) rfl ⟨rfl, below_setRow D4.out (Nat.le_refl _) _⟩
set_option maxHeartbeats 3200000 in
set_option maxRecDepth 20000 in
theorem DecodeEf_at (l : List (BitVec 8)) (bv : Value) (w : World) (y : Eff) (e : Int) (hb : BytesV w bv l) (hl : l.length ≤ 140737488355328) (hd : decP 4096 effRd effOkB effZ l = (y, e)) :
    Calls Tryd.prog 49 #[bv] w fun r w' => r = .returned (.tuple #[.agg (c32 (y.v.take 256)).toArray, .agg (c32 (y.v.drop 256)).toArray, .int .i64 e]) ∧ Below w.heap.size w w' := by
  have BV := Lib.hid hb; have HL := Lib.hid hl; have HD := Lib.hid hd
  have hyl := eff_dec_len hd
  obtain ⟨W, hW⟩ : ∃ W, W = (w.alloc (.cells Tryd.zeroCells105 105)).alloc (.cells Tryd.zeroCells105 105) := ⟨_, rfl⟩
  have D := Lib.hid (show Below w.heap.size w W by rw [hW]; exact gr_tr (gr_alloc w _) (gr_alloc _ _))
  have XA := Lib.hid (show W.heap[w.heap.size]? = some (.cells Tryd.zeroCells105 105 (0, 0)) by rw [hW]; exact blk_below (heap_alloc_new w _) (gr_alloc _ _))
  have XB := Lib.hid (show W.heap[w.heap.size + 1]? = some (.cells Tryd.zeroCells105 105 (0, 0)) by rw [hW]; have h := heap_alloc_new (w.alloc (.cells Tryd.zeroCells105 105)) (.cells Tryd.zeroCells105 105); rwa [World.size_alloc] at h)
  have ZSZ := Lib.hid (show (Tryd.zeroCells105).size = 256 by rw [z256, List.size_toArray, c32_length, List.length_replicate])
  have HW := Lib.hid hW
  have LT := Lib.hid (show (y.v.take 256).length = 256 by rw [List.length_take, hyl]; rfl)
  have LD := Lib.hid (show (y.v.drop 256).length = 256 by rw [List.length_drop, hyl])
  have RT := Lib.hid (fun (w : World) (g : Nat) (h : w.heap[g]? = some (.cells (c32 y.v).toArray 207 (0, 0))) => And.intro (show w.rangeAt g 0 (c32 (y.v.take 256)) from rng_take h 0 256) (show w.rangeAt g 256 (c32 (y.v.drop 256)) by
    have h := rng_take h 256 256
    rw [List.take_of_length_le (by rw [LD.out]; exact Nat.le_refl _)] at h; exact h))
  have SY := Lib.hid (show (c32 y.v).toArray.size = 512 by rw [List.size_toArray, c32_length, hyl])
  have OY := Lib.hid (c32_all y.v)
  obtain ⟨cy, hcy⟩ : ∃ c, (Eff.cells y).toArray = c := ⟨_, rfl⟩
  have HCY := Lib.hid hcy
  rw [show (c32 y.v).toArray = cy from hcy] at SY OY
  have RT2 := Lib.hid (fun (w : World) (g : Nat) (h : w.heap[g]? = some (.cells cy 207 (0, 0))) => RT.out w g (by rw [show (c32 y.v).toArray = cy from hcy]; exact h))
  obtain ⟨la, hla⟩ : ∃ c, y.v.take 256 = c := ⟨_, rfl⟩
  obtain ⟨lb, hlb⟩ : ∃ c, y.v.drop 256 = c := ⟨_, rfl⟩
  rw [hla] at LT RT2; rw [hlb] at LD RT2
  rw [hla, hlb]
  clear hb hl hd hW hcy hla hlb hyl RT
  have SLA := Lib.hid (show (c32 la).toArray.size = 256 by rw [List.size_toArray, c32_length, LT.out])
  have SLB := Lib.hid (show (c32 lb).toArray.size = 256 by rw [List.size_toArray, c32_length, LD.out])
  go_enter Tryd.func49, Tryd.ntmps49
  go_upto_region 1 with (fail)
  first
    | rw [← HW.out]
    | (show Code.wp _ _ _ _ ((w.alloc (.cells Tryd.zeroCells105 105)).alloc (.cells Tryd.zeroCells105 105)); rw [← HW.out])
  go_upto_region 2 with (first
    | (go_at_call 113; go_loud (refine (decoded_Eff l _ _ y e (BV.out.below D.out) HL.out HD.out).mono ?_; rw [HCY.out]; rintro r w3 ⟨rfl, hw⟩; have D3 := Lib.hid (gr_tr D.out hw); have XA3 := Lib.hid (blk_below XA.out hw); have XB3 := Lib.hid (blk_below XB.out hw); clear hw))
    | (refine wpList_store_new rfl 207 (.tmp 5) (.tmp 9) rfl cy 207 _ rfl rfl (by rw [SY.out]; kernel_rfl) (by rw [SY.out]; kernel_rfl) OY.out ?_; intro w4 hh hw; have Y4 := Lib.hid hh; have D4 := Lib.hid (gr_tr D3.out hw); have XA4 := Lib.hid (blk_below XA3.out hw); have XB4 := Lib.hid (blk_below XB3.out hw); clear hh hw))
  obtain ⟨RA, RB⟩ := RT2.out w4 _ Y4.out
  have RAH := Lib.hid RA; have RBH := Lib.hid RB
  have L105 := Lib.hid (show w.heap.size + 1 < w3.heap.size from (Array.getElem?_eq_some_iff.1 XB3.out).1)
  clear RA RB
  refine wp_region_planW (fun z => z = w.heap.size ∨ z = w.heap.size + 1) [(true, 0), (true, 1), (true, 2), (true, 3), (true, 4), (false, 5), (false, 6), (true, 7)] (by kernel_rfl) (by kernel_rfl) (by intro c a d v w h; cases d <;> exact h) ?_
  intro W1 K1 C1
  (refine wpS_firm rfl (fun K hK => ?_); simp only [Keep]; go_simp; refine hK _ ?_; clear hK K)
  refine wpS_load_midE rfl rfl 105 (.tmp 11) rfl w3.heap.size 0 rfl (c32 la) _ (fun x hS => keep_rng hS RAH.out (by have := L105.out; omega)) Tryd.underlying105 rfl (by rw [c32_length, LT.out]; kernel_rfl) ?_
  (refine wpS_firm rfl (fun K hK => ?_); simp only [Keep]; go_simp; refine hK _ ?_; clear hK K)
  refine wpS_load_midE rfl rfl 105 (.tmp 13) rfl w3.heap.size 256 rfl (c32 lb) _ (fun x hS => keep_rng hS RBH.out (by have := L105.out; omega)) Tryd.underlying105 rfl (by rw [c32_length, LD.out]; kernel_rfl) ?_
  (refine wpS_firm rfl (fun K hK => ?_); simp only [Keep]; go_simp; refine hK _ ?_; clear hK K)
  have XA5 := Lib.hid (blk_below XA4.out C1.out)
  have XB5 := Lib.hid (blk_below XB4.out C1.out)
  refine wpS_chain rfl ?_
  refine wpList_store_row rfl 105 (.tmp 2) (.tmp 12) rfl w.heap.size (c32 la).toArray rfl rfl 105 _ XA5.out (by rw [SLA.out]; kernel_rfl) (by rw [SLA.out]; kernel_rfl) (c32_all la) ?_
  obtain ⟨W2, hW2⟩ : ∃ z, z = W1.setRow w.heap.size (c32 la).toArray := ⟨_, rfl⟩
  have cc2 : Chg (fun b => b = w.heap.size) W1 W2 := by rw [hW2]; exact Chg.setRow (B := fun b => b = w.heap.size) W1 rfl _
  have XA6 := Lib.hid (show W2.heap[w.heap.size]? = some (.cells (c32 la).toArray 105 (0, 0)) by rw [hW2]; exact setRow_heap _ _ _ _ _ _ XA5.out)
  have XB6 := Lib.hid (cc2.blk XB5.out (by omega))
  have K2 := Lib.hid (K1.out.chgE cc2 (fun k hk => .inl (.inl hk)))
  have D6 := Lib.hid (cc2.fresh (gr_tr D4.out C1.out) (fun k hk => by subst hk; exact Nat.le_refl _))
  rw [← hW2]
  clear hW2 cc2
  go_wp2_with fail
  refine ⟨K2.out, ?_⟩
  refine wpS_chain rfl ?_
  refine wpList_store_row rfl 105 (.tmp 3) (.tmp 14) rfl (w.heap.size + 1) (c32 lb).toArray rfl rfl 105 _ XB6.out (by rw [SLB.out]; kernel_rfl) (by rw [SLB.out]; kernel_rfl) (c32_all lb) ?_
  obtain ⟨W3, hW3⟩ : ∃ z, z = W2.setRow (w.heap.size + 1) (c32 lb).toArray := ⟨_, rfl⟩
  have cc3 : Chg (fun b => b = w.heap.size + 1) W2 W3 := by rw [hW3]; exact Chg.setRow (B := fun b => b = w.heap.size + 1) W2 rfl _
  have XB7 := Lib.hid (show W3.heap[w.heap.size + 1]? = some (.cells (c32 lb).toArray 105 (0, 0)) by rw [hW3]; exact setRow_heap _ _ _ _ _ _ XB6.out)
  have XA7 := Lib.hid (cc3.blk XA6.out (by omega))
  have K3 := Lib.hid (K2.out.chgE cc3 (fun k hk => .inl (.inr hk)))
  have D7 := Lib.hid (cc3.fresh D6.out (fun k hk => by subst hk; omega))
  rw [← hW3]
  clear hW3 cc3
  go_wp2_with fail
  refine ⟨K3.out, ?_⟩
  repeat (refine wpS_firm rfl (fun K hK => ?_); simp only [Keep]; go_simp; refine hK _ ?_; clear hK K)
  unfold wpS
  go_wp2_with fail
  exact bodyPost_ret (results_row_row_tmp rfl _ _ w.heap.size (w.heap.size + 1) 105 105 (c32 la).toArray (c32 lb).toArray (0, 0) (0, 0) _ rfl XA7.out rfl XB7.out Tryd.underlying105 rfl (by rw [SLA.out]; kernel_rfl) (by rw [SLB.out]; kernel_rfl)) rfl ⟨rfl, D7.out⟩
end Go.Proofs.YthnnopjakpjoeaaDoor
namespace Go.Proofs.YthnnopjakpjoeaaDoor
open Go.RowKit Lg
set_option linter.unusedVariables false
set_option linter.unusedSimpArgs false
theorem wpS_load_rowE {P : Program} {ops : Array Oper} {Q : Exit → Act → World → Prop} {S : World → Prop} {a : Act} {w : World} {i : Nat} {r : List (Bool × Nat)} {o : Oper} (ho : ops[i]? = some o) (hw : Region.wanted o (yielded ops a.tmps) = true) (ty : TypeId) (x : Operand) (hop : o.op = .load ty x)
    (g : Nat) (hx : a.eval x = .pointer (some ⟨g, 0, none⟩)) (t : TypeId) (cs : Array Value) (fr : Nat × Nat) (d : TypeDesc) (hg : ∀ x, S x → x.heap[g]? = some (.cells cs t fr))
    (hu : P.underlying ty = some d) (hd : (match d with | .struct _ | .array _ _ => true | _ => false) = true) (hi : (P.info? ty).map (·.size) = some cs.size)
    (h : wpS P ops Q S r (a.put o.dst (.agg cs)) w) : wpS P ops Q S ((true, i) :: r) a w := by
  refine ⟨o, ho, ?_⟩
  rw [if_pos hw]
  refine ⟨.agg cs, fun x hS => ?_, h⟩
  unfold execOp
  simp only [hop, hx, Instr.loadAt, Instr.sureAddr, Sem.run_bind, Sem.run_pure, Result.andThen_ok, run_loadVar_row x g t ty cs fr d (hg x hS) hu hd hi]
theorem keep_blkE {B : Nat → Prop} {w x : World} {g : Nat} {o : Obj} (h : Keep B w x) (hg : w.heap[g]? = some o) (hn : ¬ B g) : x.heap[g]? = some o := by
  obtain ⟨y, rfl⟩ := h
  exact (y.block g (Array.getElem?_eq_some_iff.1 hg).1 hn).trans hg
namespace Lg
theorem efP_nil : efP [] [] = List.replicate 4096 0#8 := by
  unfold efP
  rw [nsP_nil, nsP_nil, List.replicate_append_replicate]
/-- What is held of a list when k dwords have been read. -/
def rwA (f : Nat → List (BitVec 32)) (k : Nat) : Array Value := (c32 (f k ++ List.replicate (256 - k) 0#32)).toArray
theorem rwA_zero (f : Nat → List (BitVec 32)) (h : f 0 = []) : rwA f 0 = Tryd.zeroCells105 := by
  rw [z256]; unfold rwA
  rw [h, List.nil_append]
theorem rwA_size (f : Nat → List (BitVec 32)) (k : Nat) (hl : (f k).length = k) (hk : k ≤ 256) : (rwA f k).size = 256 := by
  unfold rwA
  rw [List.size_toArray, c32_length, List.length_append, hl, List.length_replicate]; omega
theorem rwA_set (f : Nat → List (BitVec 32)) (k : Nat) (x : BitVec 32) (hl : (f k).length = k) (hk : k < 256) (hx : f (k + 1) = f k ++ [x]) : (rwA f k).setIfInBounds k (.int .u32 (uv x)) = rwA f (k + 1) := by
  unfold rwA
  rw [List.setIfInBounds_toArray]
  refine congrArg List.toArray ?_
  unfold c32
  rw [show Value.int .u32 (uv x) = (fun y : BitVec 32 => Value.int .u32 (uv y)) x from rfl, ← List.map_set, hx, show 256 - k = (256 - (k + 1)) + 1 by omega, List.replicate_succ, List.set_append_right _ _ (by rw [hl]; exact Nat.le_refl _), hl, Nat.sub_self, List.append_assoc]; rfl
theorem rwA_get (f : Nat → List (BitVec 32)) (k : Nat) (hl : (f k).length = k) (hk : k < 256) : (rwA f k)[k]? = some (.int .u32 0) := by
  unfold rwA
  rw [List.getElem?_toArray]
  refine (c32_get _ k 0#32 ?_).trans rfl
  rw [List.getElem?_append_right (by rw [hl]; exact Nat.le_refl _), hl, Nat.sub_self, List.getElem?_replicate, if_pos (by omega)]
theorem rwA_all (f : Nat → List (BitVec 32)) : rwA f 256 = (c32 (f 256)).toArray := by
  unfold rwA; rw [Nat.sub_self, List.replicate_zero, List.append_nil]
end Lg
set_option maxRecDepth 20000 in
set_option maxHeartbeats 3200000 in
theorem rEncEf_at (a b : List (BitVec 32)) (B : List (BitVec 8)) (w : World) (ha : a.length = 256) (hb : b.length = 256) (hB : efB a b = B) :
    Calls Tryd.prog 47 #[.agg (c32 a).toArray, .agg (c32 b).toArray] w fun r w' => ∃ u, r = .returned u ∧ BytesV w' u B ∧ Below w.heap.size w w' := by
  have HB := Lib.hid hB
  have HA1 := Lib.hid ha; have HB1 := Lib.hid hb
  have GA := Lib.hid (fun (k : Nat) (x : BitVec 32) (h : a[k]? = some x) => show (c32 a).toArray[k]? = some (.int .u32 (uv x)) by rw [List.getElem?_toArray]; exact c32_get _ _ _ h)
  have GB := Lib.hid (fun (k : Nat) (x : BitVec 32) (h : b[k]? = some x) => show (c32 b).toArray[k]? = some (.int .u32 (uv x)) by rw [List.getElem?_toArray]; exact c32_get _ _ _ h)
  obtain ⟨ca, hca⟩ : ∃ c, (c32 a).toArray = c := ⟨_, rfl⟩
  obtain ⟨cb, hcb⟩ : ∃ c, (c32 b).toArray = c := ⟨_, rfl⟩
  rw [hca] at GA; rw [hcb] at GB
  rw [hca, hcb]
  obtain ⟨W, hW⟩ : ∃ W, W = (w.alloc (.cells ca 105)).alloc (.cells cb 105) := ⟨_, rfl⟩
  have D := Lib.hid (show Below w.heap.size w W by rw [hW]; exact gr_tr (gr_alloc w _) (gr_alloc _ _))
  have XA := Lib.hid (show W.heap[w.heap.size]? = some (.cells ca 105 (0, 0)) by rw [hW]; exact blk_below (heap_alloc_new w _) (gr_alloc _ _))
  have XB := Lib.hid (show W.heap[w.heap.size + 1]? = some (.cells cb 105 (0, 0)) by rw [hW]; have h := heap_alloc_new (w.alloc (.cells ca 105)) (.cells cb 105); rwa [World.size_alloc] at h)
  have LT := Lib.hid (show w.heap.size + 1 < W.heap.size from (Array.getElem?_eq_some_iff.1 XB.out).1)
  have HW := Lib.hid hW
  have PN := Lib.hid efP_nil
  have PA := Lib.hid (fun (x y : List (BitVec 32)) (z : BitVec 32) (h : x.length < 256) => efP_a x y z h)
  have PB := Lib.hid (fun (x y : List (BitVec 32)) (z : BitVec 32) (h : x.length ≤ 256) => efP_b x y z h)
  have PE := Lib.hid ((efP_all a b ha hb).trans hB)
  obtain ⟨P, hP⟩ : ∃ P, efP = P := ⟨_, rfl⟩
  rw [hP] at PN PA PB PE
  clear hW hca hcb ha hb hB hP
  go_enter Tryd.func47, Tryd.ntmps47
  go_upto_region 1 with (fail)
  rw [← HW.out]
  go_upto_region 2 with (refine make_law bytesOk rfl _ _ rfl W.heap.size .i64 .i64 4096 4096 4096 rfl rfl rfl rfl (by omega) (by omega) (Nat.le_refl _) ?_; intro w2 hown hgrow; have O2 := Lib.hid (show OwnN 4096 w2 W.heap.size W.heap.size 4096 (P [] []) by have h := hown; rw [by8_made, ← PN.out] at h; exact h); have B2 := Lib.hid ((Below.refl W.heap.size W).grown hgrow (Nat.le_refl _) (by intro k hk; cases hk)); clear hown hgrow)
  have XA2 := Lib.hid (blk_below XA.out B2.out)
  have XB2 := Lib.hid (blk_below XB.out B2.out)
  go_upto_region 3 with (fail)
  go_loopw [6] (fun i wr => ∃ k : Nat, k ≤ 256 ∧ i = .int .i64 k ∧ OwnN 4096 wr W.heap.size W.heap.size 4096 (P (a.take k) (b.take k)) ∧ wr.heap[w.heap.size]? = some (.cells ca 105 (0, 0)) ∧ wr.heap[w.heap.size + 1]? = some (.cells cb 105 (0, 0)) ∧ Below W.heap.size W wr) (fun i _ => 256 - (intOf i).toNat)
  case atStart => exact ⟨0, by omega, rfl, O2.out, XA2.out, XB2.out, B2.out⟩
  case round =>
    obtain ⟨k, hk, rfl, ho, hxa, hxb, hb⟩ := hrel
    have O6 := Lib.hid ho; have XA6 := Lib.hid hxa; have XB6 := Lib.hid hxb; have B6 := Lib.hid hb; clear ho hxa hxb hb
    by_cases hlt : k < 256
    · obtain ⟨x, hx⟩ : ∃ x, a[k]? = some x := ⟨_, List.getElem?_eq_getElem (by rw [HA1.out]; exact hlt)⟩
      obtain ⟨y, hy⟩ : ∃ y, b[k]? = some y := ⟨_, List.getElem?_eq_getElem (by rw [HB1.out]; exact hlt)⟩
      have ta : a.take (k + 1) = a.take k ++ [x] := by obtain ⟨h5, rfl⟩ := List.getElem?_eq_some_iff.1 hx; exact List.take_succ_eq_append_getElem h5
      have tb : b.take (k + 1) = b.take k ++ [y] := by obtain ⟨h5, rfl⟩ := List.getElem?_eq_some_iff.1 hy; exact List.take_succ_eq_append_getElem h5
      have la : (a.take k).length = k := by rw [List.length_take, HA1.out]; omega
      have lb : (b.take k).length = k := by rw [List.length_take, HB1.out]; omega
      have SA := Lib.hid (show Lay.lay (P (a.take k) (b.take k)) (4 * k) (Wire.le (x.setWidth 64) 4) = P (a.take (k + 1)) (b.take k) by
        have h := PA.out (a.take k) (b.take k) x (by rw [la]; exact hlt)
        rw [la] at h; rw [h, ta])
      have SB := Lib.hid (show Lay.lay (P (a.take (k + 1)) (b.take k)) (1024 + 4 * k) (Wire.le (y.setWidth 64) 4) = P (a.take (k + 1)) (b.take (k + 1)) by
        have h := PB.out (a.take (k + 1)) (b.take k) y (by rw [ta, List.length_append, la]; simp; omega)
        rw [lb] at h; rw [h, tb])
      have UX := Lib.hid (uw32 x); have UY := Lib.hid (uw32 y)
      have cx : wr.cell? ⟨w.heap.size, k, none⟩ = some (.int .u32 (uv x)) := (cell_of_row _ _ _ _ _ _ XA6.out).trans (GA.out k x hx)
      have EY := Lib.hid (GB.out k y hy)
      have hk0 : (0 : Int) ≤ (k : Int) := by omega
      have hk1 : (k : Int) < 256 := by omega
      clear hx hy ta tb la lb
      go_upto_region 6 with (go_at_call 80; go_loud (rw [← UX.out]; refine (rput23 4096 W.heap.size 4096 W.heap.size _ (4 * k) 4 (x.setWidth 64) wr O6.out (by decide) (by omega) (by decide)).mono ?_; rintro r w8 ⟨rfl, ho, hc⟩; rw [SA.out] at ho; have O8 := Lib.hid ho; have XA8 := Lib.hid (hc.blk XA6.out (by have := LT.out; omega)); have XB8 := Lib.hid (hc.blk XB6.out (by have := LT.out; omega)); have B8 := Lib.hid (B6.out.trans (hc.below (fun q hq => by subst hq; exact Nat.le_refl _) B6.out.size)); clear ho hc))
      have cy : w8.cell? ⟨w.heap.size + 1, k, none⟩ = some (.int .u32 (uv y)) := (cell_of_row _ _ _ _ _ _ XB8.out).trans EY.out
      clear cx
      go_wp2_with (go_at_call 80; go_loud (rw [← UY.out]; refine (rput23 4096 W.heap.size 4096 W.heap.size _ (1024 + 4 * k) 4 (y.setWidth 64) w8 O8.out (by decide) (by omega) (by decide)).mono ?_; rintro r w9 ⟨rfl, ho, hc⟩; rw [SB.out] at ho; have O9 := Lib.hid ho; have XA9 := Lib.hid (hc.blk XA8.out (by have := LT.out; omega)); have XB9 := Lib.hid (hc.blk XB8.out (by have := LT.out; omega)); have B9 := Lib.hid (B8.out.trans (hc.below (fun q hq => by subst hq; exact Nat.le_refl _) B8.out.size)); clear ho hc))
      go_roundw
      case rel => exact ⟨k + 1, by omega, by go_num, O9.out, XA9.out, XB9.out, B9.out⟩
      case measure => simp [intOf]; omega
    · obtain rfl : k = 256 := by omega
      have OB := Lib.hid (show OwnN 4096 wr W.heap.size W.heap.size 4096 B by
        rw [← PE.out]
        have h := O6.out
        rwa [List.take_of_length_le (by rw [HA1.out]; decide), List.take_of_length_le (by rw [HB1.out]; decide)] at h)
      go_wp2
      go_ret
      exact ⟨_, rfl, OB.out.bytes, gr_tr D.out B6.out⟩
set_option maxHeartbeats 6400000 in
set_option maxRecDepth 20000 in
theorem rDecEf_at (l : List (BitVec 8)) (bv : Value) (w : World) (y : Eff) (e : Int) (hb : BytesV w bv l) (hl : l.length ≤ 5000) (hd : decP 4096 effRd (fun l => allZ (l.drop 2048)) effZ l = (y, e)) :
    Calls Tryd.prog 50 #[bv] w fun r w' => r = .returned (.tuple #[.agg (c32 (y.v.take 256)).toArray, .agg (c32 (y.v.drop 256)).toArray, .int .i64 e]) ∧ Below w.heap.size w w' := by
  have BV := Lib.hid hb
  have HL5 := Lib.hid hl
  obtain ⟨W, hW⟩ : ∃ W, W = (((w.alloc (.cells Tryd.zeroCells105 105)).alloc (.cells Tryd.zeroCells105 105)).alloc (.cells Tryd.zeroCells105 105)).alloc (.cells Tryd.zeroCells105 105) := ⟨_, rfl⟩
  have D := Lib.hid (show Below w.heap.size w W by rw [hW]; exact gr_tr (gr_tr (gr_tr (gr_alloc w _) (gr_alloc _ _)) (gr_alloc _ _)) (gr_alloc _ _))
  have X0 := Lib.hid (show W.heap[w.heap.size]? = some (.cells Tryd.zeroCells105 105 (0, 0)) by rw [hW]; exact blk_below (blk_below (blk_below (heap_alloc_new w _) (gr_alloc _ _)) (gr_alloc _ _)) (gr_alloc _ _))
  have X1 := Lib.hid (show W.heap[w.heap.size + 1]? = some (.cells Tryd.zeroCells105 105 (0, 0)) by
    rw [hW]
    have h := heap_alloc_new (w.alloc (.cells Tryd.zeroCells105 105)) (.cells Tryd.zeroCells105 105)
    rw [World.size_alloc] at h
    exact blk_below (blk_below h (gr_alloc _ _)) (gr_alloc _ _))
  have X2 := Lib.hid (show W.heap[w.heap.size + 1 + 1]? = some (.cells Tryd.zeroCells105 105 (0, 0)) by
    rw [hW]
    have h := heap_alloc_new ((w.alloc (.cells Tryd.zeroCells105 105)).alloc (.cells Tryd.zeroCells105 105)) (.cells Tryd.zeroCells105 105)
    rw [World.size_alloc, World.size_alloc] at h
    exact blk_below h (gr_alloc _ _))
  have X3 := Lib.hid (show W.heap[w.heap.size + 1 + 1 + 1]? = some (.cells Tryd.zeroCells105 105 (0, 0)) by
    rw [hW]
    have h := heap_alloc_new (((w.alloc (.cells Tryd.zeroCells105 105)).alloc (.cells Tryd.zeroCells105 105)).alloc (.cells Tryd.zeroCells105 105)) (.cells Tryd.zeroCells105 105)
    rw [World.size_alloc, World.size_alloc, World.size_alloc] at h
    exact h)
  have ZSZ := Lib.hid (show (Tryd.zeroCells105).size = 256 by rw [z256, List.size_toArray, c32_length, List.length_replicate])
  have ZONE : (Tryd.zeroCells105).all (·.oneCell') = true := by rw [z256]; exact c32_all _
  have EZ := Lib.hid (show (c32 (effZ.v.take 256)).toArray = Tryd.zeroCells105 ∧ (c32 (effZ.v.drop 256)).toArray = Tryd.zeroCells105 by
    rw [effZ_v, List.take_replicate, List.drop_replicate, z256]; exact ⟨rfl, rfl⟩)
  have HW := Lib.hid hW
  clear hW
  have ZO := Lib.hid ZONE
  clear ZONE
  unfold decP at hd
  by_cases p1 : l.length < 4096
  · rw [if_pos p1] at hd
    obtain ⟨rfl, rfl⟩ : effZ = y ∧ (4 : Int) = e := by injection hd with h1 h2; exact ⟨h1, h2⟩
    have HE := Lib.hid (show chkE l 4096 = 4 by unfold chkE; rw [if_pos p1])
    clear p1 hd hb hl
    go_enter Tryd.func50, Tryd.ntmps50
    go_upto_region 2 with (fail)
    first
      | rw [← HW.out]
      | (show Code.wp _ _ _ _ ((((w.alloc (.cells Tryd.zeroCells105 105)).alloc (.cells Tryd.zeroCells105 105)).alloc (.cells Tryd.zeroCells105 105)).alloc (.cells Tryd.zeroCells105 105)); rw [← HW.out])
    go_upto_region 4 with (go_at_call 105; go_loud (refine (check23 _ l 4096 4096 4 _ rfl (BV.out.below D.out) (HE.out)).mono ?_; rintro r w1 ⟨rfl, rfl⟩))
    refine wp_region_planW (fun z => z = w.heap.size ∨ z = w.heap.size + 1) [(true, 0), (true, 1), (true, 2), (false, 3), (false, 4), (true, 5)] (by kernel_rfl) (by kernel_rfl) (by intro c a d v w h; cases d <;> exact h) ?_
    intro W1 K1 C1
    refine wpS_load_rowE rfl rfl 105 (.tmp 5) rfl (w.heap.size + 1 + 1) rfl 105 Tryd.zeroCells105 (0, 0) _ (fun z hz => keep_blkE hz X2.out (by omega)) Tryd.underlying105 rfl (by rw [ZSZ.out]; kernel_rfl) ?_
    refine wpS_load_rowE rfl rfl 105 (.tmp 6) rfl (w.heap.size + 1 + 1 + 1) rfl 105 Tryd.zeroCells105 (0, 0) _ (fun z hz => keep_blkE hz X3.out (by omega)) Tryd.underlying105 rfl (by rw [ZSZ.out]; kernel_rfl) ?_
    repeat (refine wpS_firm rfl (fun K hK => ?_); simp only [Keep]; go_simp; refine hK _ ?_; clear hK K)
    have XA5 := Lib.hid (blk_below X0.out C1.out)
    have XB5 := Lib.hid (blk_below X1.out C1.out)
    refine wpS_chain rfl ?_
    refine wpList_store_row rfl 105 (.tmp 2) (.tmp 13) rfl w.heap.size Tryd.zeroCells105 rfl rfl 105 _ XA5.out (by rw [ZSZ.out]; kernel_rfl) (ZSZ.out.trans ZSZ.out.symm) ZO.out ?_
    obtain ⟨W2, hW2⟩ : ∃ z, z = W1.setRow w.heap.size Tryd.zeroCells105 := ⟨_, rfl⟩
    have cc2 : Chg (fun b => b = w.heap.size) W1 W2 := by rw [hW2]; exact Chg.setRow (B := fun b => b = w.heap.size) W1 rfl _
    have XA6 := Lib.hid (show W2.heap[w.heap.size]? = some (.cells Tryd.zeroCells105 105 (0, 0)) by rw [hW2]; exact setRow_heap _ _ _ _ _ _ XA5.out)
    have XB6 := Lib.hid (cc2.blk XB5.out (by omega))
    have K2 := Lib.hid (K1.out.chgE cc2 (fun k hk => .inl (.inl hk)))
    have D6 := Lib.hid (cc2.fresh (gr_tr D.out C1.out) (fun k hk => by subst hk; exact Nat.le_refl _))
    rw [← hW2]
    clear hW2 cc2
    go_wp2_with fail
    refine ⟨K2.out, ?_⟩
    refine wpS_chain rfl ?_
    refine wpList_store_row rfl 105 (.tmp 3) (.tmp 14) rfl (w.heap.size + 1) Tryd.zeroCells105 rfl rfl 105 _ XB6.out (by rw [ZSZ.out]; kernel_rfl) (ZSZ.out.trans ZSZ.out.symm) ZO.out ?_
    obtain ⟨W3, hW3⟩ : ∃ z, z = W2.setRow (w.heap.size + 1) Tryd.zeroCells105 := ⟨_, rfl⟩
    have cc3 : Chg (fun b => b = w.heap.size + 1) W2 W3 := by rw [hW3]; exact Chg.setRow (B := fun b => b = w.heap.size + 1) W2 rfl _
    have XB7 := Lib.hid (show W3.heap[w.heap.size + 1]? = some (.cells Tryd.zeroCells105 105 (0, 0)) by rw [hW3]; exact setRow_heap _ _ _ _ _ _ XB6.out)
    have XA7 := Lib.hid (cc3.blk XA6.out (by omega))
    have K3 := Lib.hid (K2.out.chgE cc3 (fun k hk => .inl (.inr hk)))
    have D7 := Lib.hid (cc3.fresh D6.out (fun k hk => by subst hk; omega))
    rw [← hW3]
    clear hW3 cc3
    go_wp2_with fail
    refine ⟨K3.out, ?_⟩
    repeat (refine wpS_firm rfl (fun K hK => ?_); simp only [Keep]; go_simp; refine hK _ ?_; clear hK K)
    unfold wpS
    go_wp2_with fail
    exact bodyPost_ret (results_row_row_tmp rfl _ _ w.heap.size (w.heap.size + 1) 105 105 Tryd.zeroCells105 Tryd.zeroCells105 (0, 0) (0, 0) _ rfl XA7.out rfl XB7.out Tryd.underlying105 rfl (by rw [ZSZ.out]; kernel_rfl) (by rw [ZSZ.out]; kernel_rfl)) rfl ⟨by rw [EZ.out.1, EZ.out.2]; rfl, D7.out⟩
  rw [if_neg p1] at hd
  by_cases p2 : 4096 < l.length
  · rw [if_pos p2] at hd
    obtain ⟨rfl, rfl⟩ : effZ = y ∧ (5 : Int) = e := by injection hd with h1 h2; exact ⟨h1, h2⟩
    have HE := Lib.hid (show chkE l 4096 = 5 by unfold chkE; rw [if_neg p1, if_pos p2])
    clear p2 hd hb hl
    go_enter Tryd.func50, Tryd.ntmps50
    go_upto_region 2 with (fail)
    first
      | rw [← HW.out]
      | (show Code.wp _ _ _ _ ((((w.alloc (.cells Tryd.zeroCells105 105)).alloc (.cells Tryd.zeroCells105 105)).alloc (.cells Tryd.zeroCells105 105)).alloc (.cells Tryd.zeroCells105 105)); rw [← HW.out])
    go_upto_region 4 with (go_at_call 105; go_loud (refine (check23 _ l 4096 4096 5 _ rfl (BV.out.below D.out) (HE.out)).mono ?_; rintro r w1 ⟨rfl, rfl⟩))
    refine wp_region_planW (fun z => z = w.heap.size ∨ z = w.heap.size + 1) [(true, 0), (true, 1), (true, 2), (false, 3), (false, 4), (true, 5)] (by kernel_rfl) (by kernel_rfl) (by intro c a d v w h; cases d <;> exact h) ?_
    intro W1 K1 C1
    refine wpS_load_rowE rfl rfl 105 (.tmp 5) rfl (w.heap.size + 1 + 1) rfl 105 Tryd.zeroCells105 (0, 0) _ (fun z hz => keep_blkE hz X2.out (by omega)) Tryd.underlying105 rfl (by rw [ZSZ.out]; kernel_rfl) ?_
    refine wpS_load_rowE rfl rfl 105 (.tmp 6) rfl (w.heap.size + 1 + 1 + 1) rfl 105 Tryd.zeroCells105 (0, 0) _ (fun z hz => keep_blkE hz X3.out (by omega)) Tryd.underlying105 rfl (by rw [ZSZ.out]; kernel_rfl) ?_
    repeat (refine wpS_firm rfl (fun K hK => ?_); simp only [Keep]; go_simp; refine hK _ ?_; clear hK K)
    have XA5 := Lib.hid (blk_below X0.out C1.out)
    have XB5 := Lib.hid (blk_below X1.out C1.out)
    refine wpS_chain rfl ?_
    refine wpList_store_row rfl 105 (.tmp 2) (.tmp 13) rfl w.heap.size Tryd.zeroCells105 rfl rfl 105 _ XA5.out (by rw [ZSZ.out]; kernel_rfl) (ZSZ.out.trans ZSZ.out.symm) ZO.out ?_
    obtain ⟨W2, hW2⟩ : ∃ z, z = W1.setRow w.heap.size Tryd.zeroCells105 := ⟨_, rfl⟩
    have cc2 : Chg (fun b => b = w.heap.size) W1 W2 := by rw [hW2]; exact Chg.setRow (B := fun b => b = w.heap.size) W1 rfl _
    have XA6 := Lib.hid (show W2.heap[w.heap.size]? = some (.cells Tryd.zeroCells105 105 (0, 0)) by rw [hW2]; exact setRow_heap _ _ _ _ _ _ XA5.out)
    have XB6 := Lib.hid (cc2.blk XB5.out (by omega))
    have K2 := Lib.hid (K1.out.chgE cc2 (fun k hk => .inl (.inl hk)))
    have D6 := Lib.hid (cc2.fresh (gr_tr D.out C1.out) (fun k hk => by subst hk; exact Nat.le_refl _))
    rw [← hW2]
    clear hW2 cc2
    go_wp2_with fail
    refine ⟨K2.out, ?_⟩
    refine wpS_chain rfl ?_
    refine wpList_store_row rfl 105 (.tmp 3) (.tmp 14) rfl (w.heap.size + 1) Tryd.zeroCells105 rfl rfl 105 _ XB6.out (by rw [ZSZ.out]; kernel_rfl) (ZSZ.out.trans ZSZ.out.symm) ZO.out ?_
    obtain ⟨W3, hW3⟩ : ∃ z, z = W2.setRow (w.heap.size + 1) Tryd.zeroCells105 := ⟨_, rfl⟩
    have cc3 : Chg (fun b => b = w.heap.size + 1) W2 W3 := by rw [hW3]; exact Chg.setRow (B := fun b => b = w.heap.size + 1) W2 rfl _
    have XB7 := Lib.hid (show W3.heap[w.heap.size + 1]? = some (.cells Tryd.zeroCells105 105 (0, 0)) by rw [hW3]; exact setRow_heap _ _ _ _ _ _ XB6.out)
    have XA7 := Lib.hid (cc3.blk XA6.out (by omega))
    have K3 := Lib.hid (K2.out.chgE cc3 (fun k hk => .inl (.inr hk)))
    have D7 := Lib.hid (cc3.fresh D6.out (fun k hk => by subst hk; omega))
    rw [← hW3]
    clear hW3 cc3
    go_wp2_with fail
    refine ⟨K3.out, ?_⟩
    repeat (refine wpS_firm rfl (fun K hK => ?_); simp only [Keep]; go_simp; refine hK _ ?_; clear hK K)
    unfold wpS
    go_wp2_with fail
    exact bodyPost_ret (results_row_row_tmp rfl _ _ w.heap.size (w.heap.size + 1) 105 105 Tryd.zeroCells105 Tryd.zeroCells105 (0, 0) (0, 0) _ rfl XA7.out rfl XB7.out Tryd.underlying105 rfl (by rw [ZSZ.out]; kernel_rfl) (by rw [ZSZ.out]; kernel_rfl)) rfl ⟨by rw [EZ.out.1, EZ.out.2]; rfl, D7.out⟩
  rw [if_neg p2] at hd
  have HL := Lib.hid (show l.length = 4096 by omega)
  obtain ⟨z1, hz1⟩ : ∃ z, allZ (l.drop 2048) = z := ⟨_, rfl⟩
  have Z1 := Lib.hid hz1
  have HD := Lib.hid (show (if z1 = true then (effRd l, (0 : Int)) else (effZ, 6)) = (y, e) by rw [← hz1]; exact hd)
  obtain ⟨s9, hu9, hr9⟩ := BV.out.cutl (P := Tryd.prog) (T := 22) Tryd.underlying22 bszU 2048 (by rw [HL.out]; decide)
  have U9 := Lib.hid hu9
  obtain ⟨g, o, cv, rfl⟩ := BV.out.shapeAt (by rw [HL.out]; decide)
  have BV4 := Lib.hid (show BytesV w (.slice (some ⟨g, o, none⟩) 4096 cv) l by have := BV.out; rwa [HL.out] at this)
  rw [HL.out] at hr9 ⊢
  have R9 := Lib.hid (show ∀ w' : World, (Instr.slice 22 (.slice (some ⟨g, o, none⟩) 4096 cv) (some (.int .i64 2048)) none none).run Tryd.prog w' = .ok s9 w' from hr9)
  clear p1 p2 hd hz1 hu9 hr9 hb hl BV
  have r9 := R9.out
  cases z1
  · obtain ⟨rfl, rfl⟩ : effZ = y ∧ (6 : Int) = e := by
      have h := HD.out
      simp only [Bool.false_eq_true, if_false] at h
      injection h with h1 h2
      exact ⟨h1, h2⟩
    go_enter Tryd.func50, Tryd.ntmps50
    go_upto_region 2 with (fail)
    first
      | rw [← HW.out]
      | (show Code.wp _ _ _ _ ((((w.alloc (.cells Tryd.zeroCells105 105)).alloc (.cells Tryd.zeroCells105 105)).alloc (.cells Tryd.zeroCells105 105)).alloc (.cells Tryd.zeroCells105 105)); rw [← HW.out])
    go_upto_region 6 with (first
      | (go_at_call 105; go_loud (refine (check23 _ l 4096 4096 0 _ rfl (BV4.out.below D.out) (by unfold chkE; rw [HL.out]; rfl)).mono ?_; rintro r w1 ⟨rfl, rfl⟩))
      | (go_at_call 107; go_loud ((with_reducible refine (rZeros_at s9 (l.drop 2048) false _ (U9.out.below D.out) Z1.out).mono ?_); rintro r wz ⟨rfl, rfl⟩)))
    clear r9
    refine wp_region_planW (fun z => z = w.heap.size ∨ z = w.heap.size + 1) [(true, 0), (true, 1), (false, 2), (false, 3), (true, 4)] (by kernel_rfl) (by kernel_rfl) (by intro c a d v w h; cases d <;> exact h) ?_
    intro W1 K1 C1
    refine wpS_load_rowE rfl rfl 105 (.tmp 5) rfl (w.heap.size + 1 + 1) rfl 105 Tryd.zeroCells105 (0, 0) _ (fun z hz => keep_blkE hz X2.out (by omega)) Tryd.underlying105 rfl (by rw [ZSZ.out]; kernel_rfl) ?_
    refine wpS_load_rowE rfl rfl 105 (.tmp 6) rfl (w.heap.size + 1 + 1 + 1) rfl 105 Tryd.zeroCells105 (0, 0) _ (fun z hz => keep_blkE hz X3.out (by omega)) Tryd.underlying105 rfl (by rw [ZSZ.out]; kernel_rfl) ?_
    repeat (refine wpS_firm rfl (fun K hK => ?_); simp only [Keep]; go_simp; refine hK _ ?_; clear hK K)
    have XA5 := Lib.hid (blk_below X0.out C1.out)
    have XB5 := Lib.hid (blk_below X1.out C1.out)
    refine wpS_chain rfl ?_
    refine wpList_store_row rfl 105 (.tmp 2) (.tmp 20) rfl w.heap.size Tryd.zeroCells105 rfl rfl 105 _ XA5.out (by rw [ZSZ.out]; kernel_rfl) (ZSZ.out.trans ZSZ.out.symm) ZO.out ?_
    obtain ⟨W2, hW2⟩ : ∃ z, z = W1.setRow w.heap.size Tryd.zeroCells105 := ⟨_, rfl⟩
    have cc2 : Chg (fun b => b = w.heap.size) W1 W2 := by rw [hW2]; exact Chg.setRow (B := fun b => b = w.heap.size) W1 rfl _
    have XA6 := Lib.hid (show W2.heap[w.heap.size]? = some (.cells Tryd.zeroCells105 105 (0, 0)) by rw [hW2]; exact setRow_heap _ _ _ _ _ _ XA5.out)
    have XB6 := Lib.hid (cc2.blk XB5.out (by omega))
    have K2 := Lib.hid (K1.out.chgE cc2 (fun k hk => .inl (.inl hk)))
    have D6 := Lib.hid (cc2.fresh (gr_tr D.out C1.out) (fun k hk => by subst hk; exact Nat.le_refl _))
    rw [← hW2]
    clear hW2 cc2
    go_wp2_with fail
    refine ⟨K2.out, ?_⟩
    refine wpS_chain rfl ?_
    refine wpList_store_row rfl 105 (.tmp 3) (.tmp 21) rfl (w.heap.size + 1) Tryd.zeroCells105 rfl rfl 105 _ XB6.out (by rw [ZSZ.out]; kernel_rfl) (ZSZ.out.trans ZSZ.out.symm) ZO.out ?_
    obtain ⟨W3, hW3⟩ : ∃ z, z = W2.setRow (w.heap.size + 1) Tryd.zeroCells105 := ⟨_, rfl⟩
    have cc3 : Chg (fun b => b = w.heap.size + 1) W2 W3 := by rw [hW3]; exact Chg.setRow (B := fun b => b = w.heap.size + 1) W2 rfl _
    have XB7 := Lib.hid (show W3.heap[w.heap.size + 1]? = some (.cells Tryd.zeroCells105 105 (0, 0)) by rw [hW3]; exact setRow_heap _ _ _ _ _ _ XB6.out)
    have XA7 := Lib.hid (cc3.blk XA6.out (by omega))
    have K3 := Lib.hid (K2.out.chgE cc3 (fun k hk => .inl (.inr hk)))
    have D7 := Lib.hid (cc3.fresh D6.out (fun k hk => by subst hk; omega))
    rw [← hW3]
    clear hW3 cc3
    go_wp2_with fail
    refine ⟨K3.out, ?_⟩
    repeat (refine wpS_firm rfl (fun K hK => ?_); simp only [Keep]; go_simp; refine hK _ ?_; clear hK K)
    unfold wpS
    go_wp2_with fail
    exact bodyPost_ret (results_row_row_tmp rfl _ _ w.heap.size (w.heap.size + 1) 105 105 Tryd.zeroCells105 Tryd.zeroCells105 (0, 0) (0, 0) _ rfl XA7.out rfl XB7.out Tryd.underlying105 rfl (by rw [ZSZ.out]; kernel_rfl) (by rw [ZSZ.out]; kernel_rfl)) rfl ⟨by rw [EZ.out.1, EZ.out.2]; rfl, D7.out⟩
  · obtain ⟨rfl, rfl⟩ : effRd l = y ∧ (0 : Int) = e := by
      have h := HD.out
      simp only [if_true] at h
      injection h with h1 h2
      exact ⟨h1, h2⟩
    have FA0 := Lib.hid (rwA_zero (nsN l) rfl)
    have FB0 := Lib.hid (rwA_zero (ioN l) rfl)
    have FAS := Lib.hid (fun (k : Nat) (x : BitVec 32) (hk : k < 256) (hx : (num l (4 * k) 4).setWidth 32 = x) => rwA_set (nsN l) k x (nsN_len l k) hk (by rw [nsN_more, hx]))
    have FBS := Lib.hid (fun (k : Nat) (x : BitVec 32) (hk : k < 256) (hx : (num l (1024 + 4 * k) 4).setWidth 32 = x) => rwA_set (ioN l) k x (ioN_len l k) hk (by rw [ioN_more, hx]))
    have FAG := Lib.hid (fun (k : Nat) (hk : k < 256) => rwA_get (nsN l) k (nsN_len l k) hk)
    have FBG := Lib.hid (fun (k : Nat) (hk : k < 256) => rwA_get (ioN l) k (ioN_len l k) hk)
    have FAZ := Lib.hid (rwA_size (nsN l) 256 (nsN_len l 256) (Nat.le_refl _))
    have FBZ := Lib.hid (rwA_size (ioN l) 256 (ioN_len l 256) (Nat.le_refl _))
    have FAO := Lib.hid (show (rwA (nsN l) 256).all (·.oneCell') = true by rw [rwA_all]; exact c32_all _)
    have FBO := Lib.hid (show (rwA (ioN l) 256).all (·.oneCell') = true by rw [rwA_all]; exact c32_all _)
    have EA := Lib.hid (show (c32 ((effRd l).v.take 256)).toArray = rwA (nsN l) 256 ∧ (c32 ((effRd l).v.drop 256)).toArray = rwA (ioN l) 256 by
      have e1 : (effRd l).v = nsN l 256 ++ ioN l 256 := by unfold effRd; dsimp only; exact ef_split l
      have e2 := nsN_len l 256
      rw [rwA_all, rwA_all, e1]
      have h1 := List.take_left (l₁ := nsN l 256) (l₂ := ioN l 256)
      have h2 := List.drop_left (l₁ := nsN l 256) (l₂ := ioN l 256)
      rw [e2] at h1 h2
      rw [h1, h2]; exact ⟨rfl, rfl⟩)
    obtain ⟨A, hA⟩ : ∃ A, rwA (nsN l) = A := ⟨_, rfl⟩
    obtain ⟨C, hC⟩ : ∃ C, rwA (ioN l) = C := ⟨_, rfl⟩
    rw [hA] at FA0 FAS FAG FAZ FAO EA; rw [hC] at FB0 FBS FBG FBZ FBO EA
    clear hA hC
    go_enter Tryd.func50, Tryd.ntmps50
    go_upto_region 2 with (fail)
    first
      | rw [← HW.out]
      | (show Code.wp _ _ _ _ ((((w.alloc (.cells Tryd.zeroCells105 105)).alloc (.cells Tryd.zeroCells105 105)).alloc (.cells Tryd.zeroCells105 105)).alloc (.cells Tryd.zeroCells105 105)); rw [← HW.out])
    go_upto_region 7 with (first
      | (go_at_call 105; go_loud (refine (check23 _ l 4096 4096 0 _ rfl (BV4.out.below D.out) (by unfold chkE; rw [HL.out]; rfl)).mono ?_; rintro r w1 ⟨rfl, rfl⟩))
      | (go_at_call 107; go_loud ((with_reducible refine (rZeros_at s9 (l.drop 2048) true _ (U9.out.below D.out) Z1.out).mono ?_); rintro r wz ⟨rfl, rfl⟩)))
    clear r9
    go_upto_region 8 with (fail)
    go_loopw [8] (fun i wr => ∃ k : Nat, k ≤ 256 ∧ i = .int .i64 k ∧ wr.heap[w.heap.size]? = some (.cells Tryd.zeroCells105 105 (0, 0)) ∧ wr.heap[w.heap.size + 1]? = some (.cells Tryd.zeroCells105 105 (0, 0)) ∧ wr.heap[w.heap.size + 1 + 1]? = some (.cells (A k) 105 (0, 0)) ∧ wr.heap[w.heap.size + 1 + 1 + 1]? = some (.cells (C k) 105 (0, 0)) ∧ Below w.heap.size w wr) (fun i _ => 256 - (intOf i).toNat)
    case atStart => exact ⟨0, by omega, rfl, X0.out, X1.out, by rw [FA0.out]; exact X2.out, by rw [FB0.out]; exact X3.out, D.out⟩
    case round =>
      obtain ⟨k, hk, rfl, h0, h1, h2, h3, hb⟩ := hrel
      have Y0 := Lib.hid h0; have Y1 := Lib.hid h1; have Y2 := Lib.hid h2; have Y3 := Lib.hid h3; have DK := Lib.hid hb; clear h0 h1 h2 h3 hb
      have BB := Lib.hid (BV4.out.below DK.out)
      by_cases hlt : k < 256
      · obtain ⟨x, hx⟩ : ∃ x, num l (4 * k) 4 = x := ⟨_, rfl⟩
        obtain ⟨y, hy⟩ : ∃ y, num l (1024 + 4 * k) 4 = y := ⟨_, rfl⟩
        have HX := Lib.hid hx; have HY := Lib.hid hy
        have SA := Lib.hid (FAS.out k (x.setWidth 32) hlt (by rw [hx]))
        have SB := Lib.hid (FBS.out k (y.setWidth 32) hlt (by rw [hy]))
        have hk0 : (0 : Int) ≤ (k : Int) := by omega
        have hk1 : (k : Int) < 256 := by omega
        have hw1 : IntKind.i64.wrap (4 * (k : Int)) = 4 * (k : Int) := by rw [IntKind.wrap_i64]; omega
        have hw2 : IntKind.i64.wrap (1024 + 4 * (k : Int)) = 1024 + 4 * (k : Int) := by rw [IntKind.wrap_i64]; omega
        have HLT := Lib.hid hlt
        clear hx hy
        go_upto_region 10 with (fail)
        refine wp_region_planW (fun z => z = w.heap.size + 1 + 1 ∨ z = w.heap.size + 1 + 1 + 1) [(true, 0), (true, 1), (true, 2), (true, 3), (true, 4), (true, 7), (true, 8), (true, 9), (true, 10), (false, 5), (true, 6), (true, 13), (false, 11), (true, 12), (false, 14), (true, 15), (false, 16)] (by kernel_rfl) (by kernel_rfl) (by intro c a d v w h; cases d <;> exact h) ?_
        intro W1 K1 C1
        repeat (refine wpS_firm rfl (fun K hK => ?_); simp only [Keep]; go_simp; refine hK _ ?_; clear hK K)
        refine wpS_chain rfl ?_
        go_wp2_with (go_at_call 106; go_loud (refine (rget23 _ l (4 * k) 4 x W1 (BB.out.below C1.out) HL5.out (by rw [HL.out]; have := HLT.out; omega) (by decide) (by decide) HX.out).mono ?_; rintro r wz ⟨rfl, rfl⟩))
        refine ⟨K1.out, ?_⟩
        repeat (refine wpS_firm rfl (fun K hK => ?_); simp only [Keep]; go_simp; refine hK _ ?_; clear hK K)
        refine wpS_chain rfl ?_
        go_wp2_with (go_at_call 106; go_loud (refine (rget23 _ l (1024 + 4 * k) 4 y W1 (BB.out.below C1.out) HL5.out (by rw [HL.out]; have := HLT.out; omega) (by decide) (by decide) HY.out).mono ?_; rintro r wz ⟨rfl, rfl⟩))
        refine ⟨K1.out, ?_⟩
        repeat (refine wpS_firm rfl (fun K hK => ?_); simp only [Keep]; go_simp; refine hK _ ?_; clear hK K)
        refine wpS_chain rfl ?_
        have V2 := Lib.hid (blk_below Y2.out C1.out)
        have V3 := Lib.hid (blk_below Y3.out C1.out)
        have yk : W1.cell? ⟨w.heap.size + 1 + 1, k, none⟩ = some (.int .u32 0) := (cell_of_row _ _ _ _ _ _ V2.out).trans (FAG.out k HLT.out)
        have fk := frozen_of_row _ _ k _ _ V2.out
        go_wp2
        obtain ⟨W2, hW2⟩ : ∃ z, z = W1.setCell ⟨w.heap.size + 1 + 1, k, none⟩ (.int .u32 (uv (x.setWidth 32))) := ⟨_, rfl⟩
        have c2 : Chg (fun b => b = w.heap.size + 1 + 1) W1 W2 := by rw [hW2]; exact Chg.setCell (B := fun b => b = w.heap.size + 1 + 1) (p := ⟨w.heap.size + 1 + 1, k, none⟩) _ rfl _
        have U2 := Lib.hid (show W2.heap[w.heap.size + 1 + 1]? = some (.cells (A (k + 1)) 105 (0, 0)) by rw [hW2, ← SA.out]; exact heap_setCell_same _ _ _ _ _ _ V2.out)
        have U3 := Lib.hid (c2.blk V3.out (by omega))
        have U0 := Lib.hid (c2.blk (blk_below Y0.out C1.out) (by omega))
        have U1 := Lib.hid (c2.blk (blk_below Y1.out C1.out) (by omega))
        have D2 := Lib.hid (c2.fresh (gr_tr DK.out C1.out) (fun q hq => by subst hq; omega))
        have K2 := Lib.hid (K1.out.chgE c2 (fun q hq => .inl (.inl hq)))
        rw [← hW2]
        clear hW2 c2 yk fk
        refine ⟨K2.out, ?_⟩
        repeat (refine wpS_firm rfl (fun K hK => ?_); simp only [Keep]; go_simp; refine hK _ ?_; clear hK K)
        refine wpS_chain rfl ?_
        have yk : W2.cell? ⟨w.heap.size + 1 + 1 + 1, k, none⟩ = some (.int .u32 0) := (cell_of_row _ _ _ _ _ _ U3.out).trans (FBG.out k HLT.out)
        have fk := frozen_of_row _ _ k _ _ U3.out
        go_wp2
        obtain ⟨W3, hW3⟩ : ∃ z, z = W2.setCell ⟨w.heap.size + 1 + 1 + 1, k, none⟩ (.int .u32 (uv (y.setWidth 32))) := ⟨_, rfl⟩
        have c3 : Chg (fun b => b = w.heap.size + 1 + 1 + 1) W2 W3 := by rw [hW3]; exact Chg.setCell (B := fun b => b = w.heap.size + 1 + 1 + 1) (p := ⟨w.heap.size + 1 + 1 + 1, k, none⟩) _ rfl _
        have T3 := Lib.hid (show W3.heap[w.heap.size + 1 + 1 + 1]? = some (.cells (C (k + 1)) 105 (0, 0)) by rw [hW3, ← SB.out]; exact heap_setCell_same _ _ _ _ _ _ U3.out)
        have T2 := Lib.hid (c3.blk U2.out (by omega))
        have T0 := Lib.hid (c3.blk U0.out (by omega))
        have T1 := Lib.hid (c3.blk U1.out (by omega))
        have D3 := Lib.hid (c3.fresh D2.out (fun q hq => by subst hq; omega))
        have K3 := Lib.hid (K2.out.chgE c3 (fun q hq => .inl (.inr hq)))
        rw [← hW3]
        clear hW3 c3 yk fk
        refine ⟨K3.out, ?_⟩
        unfold wpS
        go_wp2
        go_roundw
        case rel => exact ⟨k + 1, by omega, by go_num, T0.out, T1.out, T2.out, T3.out, D3.out⟩
        case measure => simp [intOf]; omega
      · obtain rfl : k = 256 := by omega
        go_upto_region 11 with (fail)
        refine wp_region_planW (fun z => z = w.heap.size ∨ z = w.heap.size + 1) [(true, 0), (true, 1), (false, 2), (false, 3), (true, 4)] (by kernel_rfl) (by kernel_rfl) (by intro c a d v w h; cases d <;> exact h) ?_
        intro W1 K1 C1
        refine wpS_load_rowE rfl rfl 105 (.tmp 5) rfl (w.heap.size + 1 + 1) rfl 105 (A 256) (0, 0) _ (fun z hz => keep_blkE hz Y2.out (by omega)) Tryd.underlying105 rfl (by rw [FAZ.out]; kernel_rfl) ?_
        refine wpS_load_rowE rfl rfl 105 (.tmp 6) rfl (w.heap.size + 1 + 1 + 1) rfl 105 (C 256) (0, 0) _ (fun z hz => keep_blkE hz Y3.out (by omega)) Tryd.underlying105 rfl (by rw [FBZ.out]; kernel_rfl) ?_
        repeat (refine wpS_firm rfl (fun K hK => ?_); simp only [Keep]; go_simp; refine hK _ ?_; clear hK K)
        have XA5 := Lib.hid (blk_below Y0.out C1.out)
        have XB5 := Lib.hid (blk_below Y1.out C1.out)
        refine wpS_chain rfl ?_
        refine wpList_store_row rfl 105 (.tmp 2) (.tmp 41) rfl w.heap.size (A 256) rfl rfl 105 _ XA5.out (by rw [FAZ.out]; kernel_rfl) (ZSZ.out.trans FAZ.out.symm) FAO.out ?_
        obtain ⟨W2, hW2⟩ : ∃ z, z = W1.setRow w.heap.size (A 256) := ⟨_, rfl⟩
        have cc2 : Chg (fun b => b = w.heap.size) W1 W2 := by rw [hW2]; exact Chg.setRow (B := fun b => b = w.heap.size) W1 rfl _
        have XA6 := Lib.hid (show W2.heap[w.heap.size]? = some (.cells (A 256) 105 (0, 0)) by rw [hW2]; exact setRow_heap _ _ _ _ _ _ XA5.out)
        have XB6 := Lib.hid (cc2.blk XB5.out (by omega))
        have K2 := Lib.hid (K1.out.chgE cc2 (fun k hk => .inl (.inl hk)))
        have D6 := Lib.hid (cc2.fresh (gr_tr DK.out C1.out) (fun k hk => by subst hk; exact Nat.le_refl _))
        rw [← hW2]
        clear hW2 cc2
        go_wp2_with fail
        refine ⟨K2.out, ?_⟩
        refine wpS_chain rfl ?_
        refine wpList_store_row rfl 105 (.tmp 3) (.tmp 42) rfl (w.heap.size + 1) (C 256) rfl rfl 105 _ XB6.out (by rw [FBZ.out]; kernel_rfl) (ZSZ.out.trans FBZ.out.symm) FBO.out ?_
        obtain ⟨W3, hW3⟩ : ∃ z, z = W2.setRow (w.heap.size + 1) (C 256) := ⟨_, rfl⟩
        have cc3 : Chg (fun b => b = w.heap.size + 1) W2 W3 := by rw [hW3]; exact Chg.setRow (B := fun b => b = w.heap.size + 1) W2 rfl _
        have XB7 := Lib.hid (show W3.heap[w.heap.size + 1]? = some (.cells (C 256) 105 (0, 0)) by rw [hW3]; exact setRow_heap _ _ _ _ _ _ XB6.out)
        have XA7 := Lib.hid (cc3.blk XA6.out (by omega))
        have K3 := Lib.hid (K2.out.chgE cc3 (fun k hk => .inl (.inr hk)))
        have D7 := Lib.hid (cc3.fresh D6.out (fun k hk => by subst hk; omega))
        rw [← hW3]
        clear hW3 cc3
        go_wp2_with fail
        refine ⟨K3.out, ?_⟩
        repeat (refine wpS_firm rfl (fun K hK => ?_); simp only [Keep]; go_simp; refine hK _ ?_; clear hK K)
        unfold wpS
        go_wp2_with fail
        exact bodyPost_ret (results_row_row_tmp rfl _ _ w.heap.size (w.heap.size + 1) 105 105 (A 256) (C 256) (0, 0) (0, 0) _ rfl XA7.out rfl XB7.out Tryd.underlying105 rfl (by rw [FAZ.out]; kernel_rfl) (by rw [FBZ.out]; kernel_rfl)) rfl ⟨by rw [EA.out.1, EA.out.2]; rfl, D7.out⟩
end Go.Proofs.YthnnopjakpjoeaaDoor
namespace Go.Proofs.YthnnopjakpjoeaaDoor
open Go.RowKit Go.ChangeShapes Go.WideShapes Go.ChangeAt
set_option linter.unusedVariables false
set_option linter.unusedSimpArgs false
theorem own_shapeR {w : World} {base : Nat} {e : TypeId} {size : Nat} {v : Value} {n : Nat} {xs : List Value} (h : w.ownsRow base e size v n xs) : ∃ a c, v = .slice a n c := by
  obtain ⟨h1, h2⟩ := h
  rcases h2 with ⟨rfl, rfl⟩ | ⟨g, cap, cur, hv, _⟩
  · exact ⟨_, _, rfl⟩
  · exact ⟨_, _, hv⟩
theorem own_addrR {w : World} {base n : Nat} {e : TypeId} {v : Value} {xs : List Value} (h : w.ownsRow base e 1 v n xs) (hn : 0 < n) : ∃ g c, v = .slice (some ⟨g, 0, none⟩) n c ∧ base ≤ g ∧ n ≤ c ∧ c ≤ 9223372036854775807 := by
  obtain ⟨h1, h2⟩ := h
  rcases h2 with ⟨_, h0⟩ | ⟨g, cap, cur, rfl, hg, _, r1, r2, _⟩
  · omega
  · exact ⟨g, cap, rfl, hg, r1, r2⟩
theorem infoZ : ∃ i, Tryd.prog.info? 5 = some i ∧ i.zero = some (.int .u8 0) ∧ i.size = 1 ∧ i.bytes = 1 := info_parts (by kernel_rfl)
theorem zeros_list (n : Nat) : (Builtin.zeroCells (Value.int .u8 0).cells n).toList = by8 (List.replicate n 0#8) := by8_made n
theorem zeros_arr (n : Nat) : Builtin.zeroCells (Value.int .u8 0).cells n = (by8 (List.replicate n 0#8)).toArray := by
  apply Array.ext'; rw [zeros_list]
theorem run_room_zeros (w : World) (ty : TypeId) (g n cap : Nat) (cur : Array Value) (hg : w.heap[g]? = some (.cells cur 5 (0, 0))) (k : Nat) (h0 : 0 < k) (h48 : k ≤ 140737488355328) (hroom : n + k ≤ cap) (hfit : n + k ≤ cur.size) :
    (Builtin.append_ #[22, 3] ty #[.slice (some ⟨g, 0, none⟩) n cap, .int .i64 k]).run Tryd.prog w =
      .ok (.slice (some ⟨g, 0, none⟩) (n + k) cap) (w.setRow g (cur.toList.take n ++ by8 (List.replicate k 0#8) ++ cur.toList.drop (n + k)).toArray) := by
  obtain ⟨i, hi, hz, hs, hb⟩ := infoZ
  have hl : (by8 (List.replicate k 0#8)).length = k := by simp
  have hst := run_storeCells_at Tryd.prog g n 5 (by8 (List.replicate k 0#8)) 0 cur w hg (by rw [hl]; simpa using hfit) (by8_one _)
  simp only [Nat.add_zero, hl] at hst
  have hn : k ≠ 0 := by omega
  have hw : IntKind.i64.wrap (k : Int) = k := by rw [IntKind.wrap_i64]; omega
  have h48i : ¬ (281474976710656 < (k : Int) * (i.bytes : Int)) := by rw [hb]; omega
  have hneg : ¬ ((k : Int) < 0) := by omega
  have hzl := zeros_list k
  simp only [Value.cells] at hzl
  have hza := zeros_arr k
  simp only [Value.cells] at hza
  simp [Builtin.append_, run_underlying Tryd.underlying22, run_underlying Tryd.underlying3, sizeOf, typeInfo, zeroValue, hi, hz, hs, asInt, asIntOf, hw, hn, hneg, hroom, h48i, Addr.add_lit, Value.cells, hzl, hst]
theorem run_own_zeros (w : World) (ty : TypeId) (base : Nat) (v : Value) (l : List (BitVec 8)) (hown : w.ownsRow base 5 1 v l.length (by8 l)) (hbase : base ≤ w.heap.size) (k : Nat) (h0 : 0 < k) (h48 : l.length + k ≤ 140737488355328) :
    ∃ v' w', (Builtin.append_ #[22, 3] ty #[v, .int .i64 k]).run Tryd.prog w = .ok v' w' ∧ w'.ownsRow base 5 1 v' (l ++ List.replicate k 0#8).length (by8 (l ++ List.replicate k 0#8)) ∧ w.grownBy w' v.ownBlock := by
  have hn : (l ++ List.replicate k 0#8).length = l.length + k := by simp
  rw [hn, by8_append]
  have hlen : (by8 l ++ by8 (List.replicate k 0#8)).length = (l.length + k) * 1 := by simp
  rcases hown.2 with ⟨rfl, h⟩ | ⟨g, cap, cur, rfl, hbg, hg, hnc, hcm, hcs, htake⟩
  · have hl0 : l = [] := List.length_eq_zero_iff.1 h
    subst hl0
    obtain ⟨i, hi, hz, hs, hb⟩ := infoZ
    have hr := Lib.run_append_nil_zeros (P := Tryd.prog) w 22 3 ty 5 i (.int .u8 0) .i64 .i64 Tryd.underlying22 Tryd.underlying3 hi hz k h0 (by omega) (by simp at h48; omega) (by rw [hb]; simp at h48; omega)
    have hge := grownCap_ge w k 0 5
    have hle := grownCap_le_maxLen w k 0 5 (by unfold maxLen; simp at h48; omega)
    have e0 : ([] : List (BitVec 8)).length + k = k := by simp
    rw [e0]
    refine ⟨_, _, hr, ⟨by simp, .inr ⟨w.heap.size, _, _, rfl, hbase, heap_alloc_new w.drew _, hge, hle, ?_, ?_⟩⟩, ⟨rfl, rfl, rfl, by simp, fun j hj _ => heap_alloc_old w.drew _ hj⟩⟩
    · simp only [Array.size_append, size_zeroCells, Value.cells]
      simp
      omega
    · simp only [Array.toList_append, zeros_list]
      rw [show k * 1 = (by8 (List.replicate k 0#8)).length by simp]
      exact List.take_left
  · simp only [Nat.mul_one, by8_length] at hcs htake
    by_cases hroom : l.length + k ≤ cap
    · have hr := run_room_zeros w ty g l.length cap cur hg k h0 (by omega) hroom (by omega)
      refine ⟨_, _, hr, ⟨hlen, .inr ⟨g, cap, _, rfl, hbg, setRow_heap w g cur _ _ _ hg, hroom, hcm, ?_, ?_⟩⟩, ⟨rfl, rfl, rfl, by simp, fun j _ hj => setRow_other w g j _ (fun e => hj (by simp [Value.ownBlock, e]))⟩⟩
      · simp only [List.size_toArray, List.length_append, List.length_take, List.length_drop, Array.length_toList, by8_length, List.length_replicate]
        omega
      · simp only [htake]
        rw [← hlen]
        exact List.take_left
    · obtain ⟨i, hi, hz, hs, hb⟩ := infoZ
      have holds : ∀ j u, (by8 l)[j]? = some u → w.drew.cell? ((⟨g, 0, none⟩ : Addr).add j) = some u := by
        have := hown.cells (g := g) rfl
        simpa using this
      have hold := run_firstCells_some (P := Tryd.prog) w.drew 1 l.length ⟨g, 0, none⟩ l.length cap (by8 l) (by simp) holds
      have hr := Lib.run_append_grow_zeros (P := Tryd.prog) w 22 3 ty 5 i (.int .u8 0) .i64 .i64 Tryd.underlying22 Tryd.underlying3 hi hz (some ⟨g, 0, none⟩) l.length cap (by8 l) (by rw [hs]; exact hold) k h0 (by omega) (by omega) (by omega) (by rw [hb]; omega) (growslice_fits (by omega) (by rw [hb]; omega))
      have hge := grownCap_ge w (l.length + k) cap 5
      have hle := grownCap_le_maxLen w (l.length + k) cap 5 (by unfold maxLen; omega)
      refine ⟨_, _, hr, ⟨hlen, .inr ⟨w.heap.size, _, _, rfl, hbase, heap_alloc_new w.drew _, hge, hle, ?_, ?_⟩⟩, ⟨rfl, rfl, rfl, by simp, fun j hj _ => heap_alloc_old w.drew _ hj⟩⟩
      · simp only [Array.size_append, List.size_toArray, size_zeroCells, by8_length, Value.cells]
        simp
        omega
      · simp only [Array.toList_append, zeros_list]
        rw [← hlen]
        exact List.take_left
/-- 'append(own, make([]byte, k)...)'. -/
theorem app_zeros {ops : Array Oper} {rest : List Oper} {o : Oper} {a : Act} {Q : Exit → Act → World → Prop} {W : World} (hgd : o.guard = none) (s x : Operand) (ho : o.op = .call { callee := .builtin .append, args := #[s, x], argTypes := #[22, 3] })
    (u : Value) (base : Nat) (l : List (BitVec 8)) (hs : a.eval s = u) (hown : W.ownsRow base 5 1 u l.length (by8 l)) (hbase : base ≤ W.heap.size)
    (k : Nat) (hx : a.eval x = .int .i64 k) (h0 : 0 < k) (h48 : l.length + k ≤ 140737488355328)
    (h : ∀ v' w', w'.ownsRow base 5 1 v' (l ++ List.replicate k 0#8).length (by8 (l ++ List.replicate k 0#8)) → Below base W w' → wpList Tryd.prog ops Q rest (a.put o.dst v') w') : wpList Tryd.prog ops Q (o :: rest) a W := by
  obtain ⟨v', w', hr, h1, h2⟩ := run_own_zeros W o.type base u l hown hbase k h0 h48
  refine wpList_plain hgd fun K hK => ?_
  exact Lib.wp_append_run W s x _ _ ho _ _ hs hx v' w' hr (hK _ _ (h v' w' h1 ((Below.refl base W).grown h2 hbase (fun j hj => (hown.lt j hj).1))))

theorem run_own_zeros0 (w : World) (ty : TypeId) (a : Option Addr) (n c : Nat) (hn : n ≤ c) :
    (Builtin.append_ #[22, 3] ty #[.slice a n c, .int .i64 0]).run Tryd.prog w = .ok (.slice a n c) w := by
  obtain ⟨i, hi, hz, hs, hb⟩ := infoZ
  have hw : IntKind.i64.wrap (0 : Int) = 0 := by rw [IntKind.wrap_i64]; rfl
  cases a <;> simp [Builtin.append_, run_underlying Tryd.underlying22, run_underlying Tryd.underlying3, sizeOf, typeInfo, zeroValue, hi, hz, hs, asInt, asIntOf, hw, hn, storeCells, hb]
theorem app_zeros0 {ops : Array Oper} {rest : List Oper} {o : Oper} {a : Act} {Q : Exit → Act → World → Prop} {W : World} (hgd : o.guard = none) (s x : Operand) (ho : o.op = .call { callee := .builtin .append, args := #[s, x], argTypes := #[22, 3] })
    (ad : Option Addr) (n c : Nat) (hs : a.eval s = .slice ad n c) (hn : n ≤ c) (hx : a.eval x = .int .i64 0)
    (h : wpList Tryd.prog ops Q rest (a.put o.dst (.slice ad n c)) W) : wpList Tryd.prog ops Q (o :: rest) a W := by
  refine wpList_plain hgd fun K hK => ?_
  exact Lib.wp_append_run W s x _ _ ho _ _ hs hx _ _ (run_own_zeros0 W o.type ad n c hn) (hK _ _ h)
theorem BytesV.takeN {w : World} {a : Option Addr} {n c : Nat} {l : List (BitVec 8)} (h : BytesV w (.slice a n c) l) (k : Nat) (hk : k ≤ l.length) : BytesV w (.slice a k c) (l.take k) := by
  obtain ⟨a', c', e, h0, h1, h2, h3⟩ := h
  injection e with e1 e2 e3
  subst e1 e3
  have hl : (l.take k).length = k := by rw [List.length_take]; omega
  refine ⟨a, c, by rw [hl], fun ha => h0 ha, by rw [hl]; omega, h2, ?_⟩
  have := h3.take k
  unfold by8 at this ⊢
  rw [List.map_take]; exact this
theorem spoil_cut (n : Nat) (more : Int) (hn : n ≤ 1000000) (hm : -9223372036854775808 ≤ more ∧ more ≤ 9223372036854775807) (h : more < 0) :
    ∃ q : Nat, max 0 (wrap64 ((n : Int) - min (wrap64 (-more)) 10)) = (q : Int) ∧ q ≤ n := by
  have e1 : wrap64 (-more) = if more = -9223372036854775808 then -9223372036854775808 else -more := by
    split
    · rename_i e; subst e; unfold wrap64; omega
    · exact IntWalk.wrap64_in _ (by omega)
  rw [e1]
  split
  · have e2 : wrap64 ((n : Int) - min (-9223372036854775808) 10) = (n : Int) - 9223372036854775808 := by
      have : (n : Int) - min (-9223372036854775808) 10 = n + 9223372036854775808 := by omega
      rw [this]; unfold wrap64; omega
    exact ⟨0, by rw [e2]; omega, by omega⟩
  · rw [IntWalk.wrap64_in _ (by omega)]
    exact ⟨(max 0 ((n : Int) - min (-more) 10)).toNat, by omega, by omega⟩
set_option maxHeartbeats 1600000 in
set_option maxRecDepth 20000 in
theorem spoil_any (v : Value) (l : List (BitVec 8)) (at' more : Int) (by' : BitVec 8) (w : World) (hv : BytesV w v l) (hl : l.length ≤ 1000000) (ha : -9223372036854775808 ≤ at' ∧ at' ≤ 9223372036854775807) (hm : -9223372036854775808 ≤ more ∧ more ≤ 9223372036854775807) :
    Calls Tryd.prog 41 #[v, .agg #[.int .i64 at', .int .u8 (uv by'), .int .i64 more]] w fun e w' => ∃ u m, e = .returned u ∧ BytesV w' u m ∧ m.length ≤ l.length + 10 ∧ Below w.heap.size w w' := by
  have V := Lib.hid hv
  clear hv
  go_enter Tryd.func41, Tryd.ntmps41
  go_upto_region 2 with (go_at_call 18; go_loud (refine (Own_any v l _ (V.out.below (gr_alloc w _)) (by omega)).mono ?_; rintro r w1 ⟨u, rfl, ho, hb⟩; obtain ⟨ad, c, rfl⟩ := own_shapeR ho; have O := Lib.hid ho; have B := Lib.hid hb; clear ho hb))
  have c0 : w1.cell? ⟨w.heap.size, 0, none⟩ = some (.int .i64 at') := (B.out.cell (p := ⟨w.heap.size, 0, none⟩) (by simp)).trans (cell_of_row _ _ 0 _ _ _ (heap_alloc_new w _))
  have c1 : w1.cell? ⟨w.heap.size, 1, none⟩ = some (.int .u8 (uv by')) := (B.out.cell (p := ⟨w.heap.size, 1, none⟩) (by simp)).trans (cell_of_row _ _ 1 _ _ _ (heap_alloc_new w _))
  have c2 : w1.cell? ⟨w.heap.size, 2, none⟩ = some (.int .i64 more) := (B.out.cell (p := ⟨w.heap.size, 2, none⟩) (by simp)).trans (cell_of_row _ _ 2 _ _ _ (heap_alloc_new w _))
  go_cut [17] (fun s wx => ∃ b : Bool, s = .bool b ∧ (b = true → 0 ≤ at' ∧ at' < l.length) ∧ wx = w1)
  case first =>
    by_cases h1 : 0 ≤ at'
    · by_cases h2 : at' < l.length
      · go_wp2
        go_meet
        exact ⟨true, rfl, fun _ => ⟨h1, h2⟩, rfl⟩
      · go_wp2
        go_meet
        exact ⟨false, rfl, fun h => (by cases h), rfl⟩
    · go_wp2
      go_meet
      exact ⟨false, rfl, fun h => (by cases h), rfl⟩
  case rest =>
    obtain ⟨b, rfl, hin, rfl⟩ := hcut
    obtain ⟨w2, hx2⟩ : ∃ x, x = wc := ⟨_, rfl⟩
    subst hx2
    have HIN := Lib.hid hin; clear hin
    go_upto_if 17 with (fail)
    go_cut [17] (fun s wx => ∃ m : List (BitVec 8), m.length = l.length ∧ wx.ownsRow (w.alloc (.cells #[.int .i64 at', .int .u8 (uv by'), .int .i64 more] 90)).heap.size 5 1 (.slice ad l.length c) l.length (by8 m) ∧ Below (w.alloc (.cells #[.int .i64 at', .int .u8 (uv by'), .int .i64 more] 90)).heap.size (w.alloc (.cells #[.int .i64 at', .int .u8 (uv by'), .int .i64 more] 90)) wx)
    case first =>
      cases b
      · go_wp2
        go_meet
        exact ⟨l, rfl, O.out, B.out⟩
      · obtain ⟨p1, p2⟩ := HIN.out rfl
        obtain ⟨g, c', e0, hg1, hg2, hg3⟩ := own_addrR O.out (by omega)
        injection e0 with e1 e2 e3
        subst e1 e3
        obtain ⟨k, rfl⟩ := Int.eq_ofNat_of_zero_le p1
        have hk : k < l.length := by omega
        have gx : w2.cell? ⟨g, k, none⟩ = some (.int .u8 (uv l[k])) := by
          rw [World.ownsRow.cellAt O.out k (by omega), by8_get, List.getElem?_eq_getElem hk]; rfl
        have fx := World.ownsRow.frozenAt O.out k
        go_wp2
        go_meet
        refine ⟨l.set k by', by rw [List.length_set], ?_, ?_⟩
        · rw [← by8_setL]
          have := (World.ownsRow.stored O.out k (.int .u8 (uv by'))).1
          exact this
        · exact (Chg.setCell (B := fun b => b = g) (p := ⟨g, k, none⟩) _ rfl _).fresh B.out (fun k hk => by subst hk; exact hg1)
    case rest =>
      obtain ⟨m, hm2, ho2, hb2⟩ := hcut
      obtain ⟨w3, hx3⟩ : ∃ x, x = wc := ⟨_, rfl⟩
      subst hx3
      have O2 := Lib.hid ho2; have B2 := Lib.hid hb2; have HM2 := Lib.hid hm2
      clear ho2 hb2 hm2 O B
      have c2' : w3.cell? ⟨w.heap.size, 2, none⟩ = some (.int .i64 more) := (B2.out.cell (p := ⟨w.heap.size, 2, none⟩) (by simp)).trans (cell_of_row _ _ 2 _ _ _ (heap_alloc_new w _))
      have B3 := Lib.hid (gr_tr (gr_alloc w _) B2.out)
      have V2 := Lib.hid (BytesV.of_own (l := m) (by rw [HM2.out]; exact O2.out))
      clear c0 c1 c2
      by_cases h1 : more < 0
      · obtain ⟨q, hq, hql⟩ := spoil_cut l.length more (by omega) hm h1
        have hcm : m.length ≤ c := by obtain ⟨_, _, e, _, h, _⟩ := V2.out; injection e with _ _ e; rw [e]; exact h
        have hqc : q ≤ c := by have := HM2.out; omega
        have TK := Lib.hid (V2.out.takeN q (by rw [HM2.out]; exact hql))
        clear hcm
        go_wp2
        go_ret
        exact ⟨_, _, rfl, TK.out, by rw [List.length_take]; have := HM2.out; omega, B3.out⟩
      · by_cases h2 : more = 0
        · subst h2
          go_wp2_with (at_builtin; refine app_zeros0 rfl (.tmp 37) (.tmp 40) rfl ad l.length c rfl (by obtain ⟨_, _, e, _, h, _⟩ := V2.out; injection e with _ _ e; rw [← HM2.out, e]; exact h) rfl ?_)
          go_ret
          exact ⟨_, rfl, m, by have := V2.out; exact this, by have := HM2.out; omega, B3.out⟩
        · obtain ⟨q, hq⟩ : ∃ q : Nat, (q : Int) = min more 10 := ⟨(min more 10).toNat, by omega⟩
          go_wp2_with (at_builtin; refine app_zeros rfl (.tmp 37) (.tmp 40) rfl _ _ m rfl (by rw [HM2.out]; exact O2.out) B2.out.size q (by rw [hq]; rfl) (by omega) (by have := HM2.out; omega) ?_; intro v1 w5 ho hb; have O1 := Lib.hid ho; have B5 := Lib.hid hb; clear ho hb)
          go_ret
          exact ⟨_, rfl, _, BytesV.of_own O1.out, by rw [List.length_append, List.length_replicate]; have := HM2.out; omega, (gr_alloc w _).trans ((B2.out.trans B5.out).mono (gr_alloc w _).size)⟩
end Go.Proofs.YthnnopjakpjoeaaDoor
