/- Merged: LogU, LogX, Spoil3. -/
import Derived.Test.YthnnopjakpjoeaaDoorLogB
import Derived.Test.YthnnopjakpjoeaaDoorLogR
import Derived.Test.YthnnopjakpjoeaaDoorLogN
import Derived.Deep.QuietTactic
import Derived.Test.YthnnopjakpjoeaaDoorApp
import Derived.Test.YthnnopjakpjoeaaDoorRef01
import Derived.Test.YthnnopjakpjoeaaDoorOpenG
import Derived.Test.YthnnopjakpjoeaaDoorChg
import Derived.Deep.DeepCutAuto
import Derived.Lib.AppendZeros
import Derived.Lib.AppendZerosOnto
namespace Go.Proofs.YthnnopjakpjoeaaDoor
open Go.RowKit Lg
set_option linter.unusedVariables false
set_option linter.unusedSimpArgs false
theorem below_getU {w w' : World} {b o : Nat} {v : Value} (h : Below w.heap.size w w') (hc : w.cell? ⟨b, o, none⟩ = some v) : w'.cell? ⟨b, o, none⟩ = some v := (Chg.of_below (B := fun _ => False) h).cell hc id
theorem SliceV.nil0 {α : Type} {f : α → List Value} (w : World) : SliceV w f (.slice none 0 0) [] := ⟨none, 0, rfl, fun _ => rfl, by simp, by simp, .inl rfl⟩
theorem SliceV.of_wd {w : World} {base : Nat} {e : TypeId} {v : Value} {l : List (BitVec 64)} (h : w.ownsRow base e 1 v l.length (wd l)) : SliceV w (fun y : BitVec 64 => [Value.int .u64 (uv y)]) v l := by
  obtain ⟨h1, h2⟩ := h
  rcases h2 with ⟨e1, e2⟩ | ⟨g, cap, cur, hv, hg, hh, r1, r2, r3, r4⟩
  · have : l = [] := List.length_eq_zero_iff.1 e2
    subst this; subst e1; exact SliceV.nil0 w
  · subst hv
    exact ⟨_, cap, rfl, (by simp), r1, r2, by rw [flat1]; exact Row.of_own ⟨h1, .inr ⟨g, cap, cur, rfl, hg, hh, r1, r2, r3, r4⟩⟩⟩
theorem SliceV.of_w32 {w : World} {base : Nat} {e : TypeId} {v : Value} {l : List (BitVec 32)} (h : w.ownsRow base e 1 v l.length (l.map fun y => Value.int .u32 (uv y))) : SliceV w (fun y : BitVec 32 => [Value.int .u32 (uv y)]) v l := by
  obtain ⟨h1, h2⟩ := h
  rcases h2 with ⟨e1, e2⟩ | ⟨g, cap, cur, hv, hg, hh, r1, r2, r3, r4⟩
  · have : l = [] := List.length_eq_zero_iff.1 e2
    subst this; subst e1; exact SliceV.nil0 w
  · subst hv
    exact ⟨_, cap, rfl, (by simp), r1, r2, by rw [flat1]; exact Row.of_own ⟨h1, .inr ⟨g, cap, cur, rfl, hg, hh, r1, r2, r3, r4⟩⟩⟩
namespace Lg
theorem risB_snoc {n : Nat} (a : BitVec n) (l : List (BitVec n)) (x : BitVec n) : risB a (l ++ [x]) = (risB a l && decide (uv (l.getLastD a) < uv x)) := by
  induction l generalizing a with
  | nil => rw [List.nil_append]; unfold risB risB; rw [Bool.and_true, Bool.true_and]; rfl
  | cons y l ih =>
    have e : ∀ m : List (BitVec n), risB a (y :: m) = (decide (uv a < uv y) && risB y m) := fun m => rfl
    rw [List.cons_append, e, e, ih, Bool.and_assoc, List.getLastD_cons]
theorem risB_take {n : Nat} (a : BitVec n) (l : List (BitVec n)) (k : Nat) (x p : BitVec n) (hx : l[k]? = some x) (hp : (if k = 0 then some a else l[k - 1]?) = some p) : risB a (l.take (k + 1)) = (risB a (l.take k) && decide (uv p < uv x)) := by
  obtain ⟨hk, rfl⟩ := List.getElem?_eq_some_iff.1 hx
  rw [List.take_succ_eq_append_getElem hk, risB_snoc]
  have e : (l.take k).getLastD a = p := by
    cases k with
    | zero => rw [if_pos rfl] at hp; injection hp
    | succ k =>
      rw [if_neg (by omega), Nat.add_sub_cancel] at hp
      rw [List.getLastD_eq_getLast?, List.getLast?_eq_getElem?, List.length_take, Nat.min_eq_left (by omega), Nat.add_sub_cancel, List.getElem?_take_of_lt (by omega), hp]
      rfl
  rw [e]
theorem risB_false {n : Nat} (a : BitVec n) (l : List (BitVec n)) (k : Nat) (h : risB a (l.take k) = false) : risB a l = false := by
  induction l generalizing a k with
  | nil => rw [List.take_nil] at h; exact h
  | cons y l ih =>
    cases k with
    | zero => exact absurd h (by unfold risB; simp)
    | succ k =>
      rw [List.take_succ_cons] at h
      unfold risB at h ⊢
      cases hd : decide (uv a < uv y)
      · rfl
      · rw [hd, Bool.true_and] at h
        rw [Bool.true_and]; exact ih y k h
theorem zoRis_one (l : List (BitVec 64)) : zoRis (l.take 0) = true ∧ zoRis (l.take 1) = true := by
  cases l <;> exact ⟨rfl, rfl⟩
theorem zoRis_take (l : List (BitVec 64)) (k : Nat) (x p : BitVec 64) (hx : l[k + 1]? = some x) (hp : l[k]? = some p) : zoRis (l.take (k + 2)) = (zoRis (l.take (k + 1)) && decide (uv p < uv x)) := by
  cases l with
  | nil => exact absurd hx (by simp)
  | cons y l =>
    rw [List.getElem?_cons_succ] at hx
    show risB y (l.take (k + 1)) = (risB y (l.take k) && _)
    refine risB_take y l k x p hx ?_
    cases k with
    | zero => rw [if_pos rfl]; exact hp
    | succ k => rw [if_neg (by omega)]; exact hp
theorem zoRis_false (l : List (BitVec 64)) (k : Nat) (h : zoRis (l.take k) = false) : zoRis l = false := by
  cases l with
  | nil => rw [List.take_nil] at h; exact h
  | cons y l =>
    cases k with
    | zero => exact absurd h (by rw [List.take_zero]; unfold zoRis; simp)
    | succ k => exact risB_false y l k h
theorem get_consN (x : BitVec 8) (r : List (BitVec 8)) (h : r.length ≤ 7) : (Wire.get (x :: r)).toNat = x.toNat + 256 * (Wire.get r).toNat := by
  have hr : (Wire.get r).toNat < 2 ^ 56 := by
    have h1 := congrArg BitVec.toNat (Wire.get_high r (by omega))
    rw [BitVec.toNat_ushiftRight, Nat.shiftRight_eq_div_pow] at h1
    have h2 : (Wire.get r).toNat < 2 ^ (8 * r.length) := by
      rcases Nat.lt_or_ge (Wire.get r).toNat (2 ^ (8 * r.length)) with h3 | h3
      · exact h3
      · have := Nat.div_pos h3 (Nat.two_pow_pos _)
        simp at h1; omega
    exact Nat.lt_of_lt_of_le h2 (Nat.pow_le_pow_right (by decide) (by omega))
  rw [Wire.get_cons, BitVec.toNat_or, BitVec.toNat_shiftLeft, BitVec.toNat_setWidth, Nat.shiftLeft_eq, Nat.mod_eq_of_lt (by omega : (Wire.get r).toNat * 2 ^ 8 < 2 ^ 64), Nat.mod_eq_of_lt (by have := x.isLt; omega : x.toNat < 2 ^ 64), Nat.mul_comm, ← Nat.two_pow_add_eq_or_of_lt x.isLt]
  omega
theorem num_zero (l : List (BitVec 8)) (a n : Nat) (h : a + n ≤ l.length) (h8 : n ≤ 8) : (num l a n).toNat = 0 ↔ allZ (cut l a n) = true := by
  have hl := num_le l a n h h8
  have z : Wire.le 0#64 n = List.replicate n 0#8 := by
    apply List.ext_getElem?
    intro i
    by_cases hi : i < n
    · rw [Wire.le_get _ _ _ hi, List.getElem?_replicate, if_pos hi]; congr 1; simp
    · rw [List.getElem?_eq_none (by rw [Wire.le_len]; omega), List.getElem?_eq_none (by simp; omega)]
  rw [allZ_iff, cut_len h]
  constructor
  · intro h0
    have : num l a n = 0#64 := BitVec.eq_of_toNat_eq h0
    rw [← hl, this, z]
  · intro h0
    unfold num
    rw [h0, ← z, Wire.get_le 0#64 n h8 (fun _ => by simp)]; rfl
theorem num_two (l : List (BitVec 8)) (h : 8 ≤ l.length) : (num l 0 8).toNat = (num l 0 2).toNat + 65536 * (num l 2 6).toNat := by
  match l, h with
  | x0 :: x1 :: r, h =>
    have e1 : num (x0 :: x1 :: r) 0 8 = Wire.get (x0 :: x1 :: cut (x0 :: x1 :: r) 2 6) := rfl
    have e2 : num (x0 :: x1 :: r) 0 2 = Wire.get [x0, x1] := rfl
    have hc : (cut (x0 :: x1 :: r) 2 6).length ≤ 6 := by unfold cut; rw [List.length_take]; omega
    rw [e1, e2, get_consN _ _ (by rw [List.length_cons]; omega), get_consN _ _ (by omega), get_consN _ _ (by simp), get_consN _ _ (by simp)]
    show _ + 256 * (_ + 256 * (num _ 2 6).toNat) = _ + 256 * (_ + 256 * 0) + _
    omega
theorem cons_eq2 {α : Type} {a b : α} {l m : List α} (h : a = b) (h2 : l = m) : a :: l = b :: m := by rw [h, h2]
theorem tw_all {α : Type} (p : α → Bool) (l : List α) : ∀ x ∈ l.takeWhile p, p x = true := by
  induction l with
  | nil => intro x hx; exact absurd hx (by simp)
  | cons y l ih =>
    intro x hx
    rw [List.takeWhile_cons] at hx
    cases hy : p y
    · rw [hy] at hx; exact absurd hx (by simp)
    · rw [hy, if_pos rfl] at hx
      rcases List.mem_cons.1 hx with rfl | h
      · exact hy
      · exact ih x h
theorem resOk_true (sz : Nat) (k m : Nat) (l : List (BitVec 8)) : resOk (List.replicate k (sz, true) ++ [(m, false)]) l = allZ ((l.drop (sz * k)).take m) := by
  induction k generalizing l with
  | zero => rw [List.replicate_zero, List.nil_append]; unfold resOk resOk; rw [Bool.and_true, Bool.false_or, Nat.mul_zero, List.drop_zero]
  | succ k ih => rw [List.replicate_succ, List.cons_append]; unfold resOk; rw [Bool.true_or, Bool.true_and, ih, List.drop_drop, Nat.mul_succ, Nat.add_comm]
theorem fieldsOf_true (s : Nat) (k : Nat) (l : List (BitVec 8)) (a : Nat) : fieldsOf l a (List.replicate k (s, true)) = (List.range k).map fun i => (num l (a + s * i) s, (s : Int)) := by
  induction k generalizing a with
  | zero => rfl
  | succ k ih =>
    rw [List.replicate_succ, List.range_succ_eq_map, List.map_cons, List.map_map]
    unfold fieldsOf
    rw [if_pos rfl, ih]
    refine cons_eq2 rfl (List.map_congr_left fun i _ => ?_)
    show _ = (num l (a + s * (i + 1)) s, _)
    rw [show a + s + s * i = a + s * (i + 1) by rw [Nat.mul_succ]; omega]
theorem spSz_true (s k : Nat) : spSz (List.replicate k (s, true)) = s * k := by
  unfold spSz
  induction k with
  | zero => rfl
  | succ k ih => rw [List.replicate_succ, List.map_cons, List.sum_cons, ih, Nat.mul_succ, Nat.add_comm]
/-- The zones of bytes. -/
def zoN (l : List (BitVec 8)) : Nat := min (num l 0 8).toNat 511
def zoL (l : List (BitVec 8)) (n : Nat) : List (BitVec 64) := (List.range n).map fun i => num l (8 + 8 * i) 8
def zoRd (l : List (BitVec 8)) : List (BitVec 64) := zoL l (zoN l)
def zoOkB (l : List (BitVec 8)) : Bool := zoOkL (zoRd l) && (zoBL (zoRd l) == l)
def zoM (l : List (BitVec 8)) : Nat := (num l 0 2).toNat
def zoFine (l : List (BitVec 8)) : Bool := decide (zoM l ≤ 511) && (allZ (cut l 2 6) && (zoRis (zoL l (zoM l)) && allZ (l.drop (8 + 8 * zoM l))))
theorem zoL_len (l : List (BitVec 8)) (n : Nat) : (zoL l n).length = n := by unfold zoL; rw [List.length_map, List.length_range]
theorem zoL_get (l : List (BitVec 8)) (n i : Nat) (h : i < n) : (zoL l n)[i]? = some (num l (8 + 8 * i) 8) := by unfold zoL; rw [List.getElem?_map, List.getElem?_range h]; rfl
theorem zoL_take (l : List (BitVec 8)) (n k : Nat) (h : k ≤ n) : (zoL l n).take k = zoL l k := by
  unfold zoL; rw [← List.map_take, List.take_range, Nat.min_eq_left h]
theorem zoL_more (l : List (BitVec 8)) (n : Nat) : zoL l (n + 1) = zoL l n ++ [num l (8 + 8 * n) 8] := by unfold zoL; rw [List.range_succ, List.map_append]; rfl
theorem zo_back (l : List (BitVec 8)) (h : l.length = 4096) (n : Nat) (hn : n ≤ 511) (he : (num l 0 8).toNat = n) : (zoBL (zoL l n) == l) = allZ (l.drop (8 + 8 * n)) := by
  have hf : zoFl (zoL l n) = fieldsOf l 0 (List.replicate (1 + n) (8, true)) := by
    rw [fieldsOf_true, Nat.add_comm 1 n, List.range_succ_eq_map, List.map_cons, List.map_map]
    unfold zoFl
    refine cons_eq2 ?_ ?_
    · rw [zoL_len, Nat.zero_add, Nat.mul_zero, ← he, BitVec.ofNat_toNat, BitVec.setWidth_eq]; rfl
    · unfold fl64 zoL
      rw [List.map_map]
      refine List.map_congr_left fun i _ => ?_
      show (num l (8 + 8 * i) 8, (8 : Int)) = (num l (0 + 8 * (i + 1)) 8, _)
      rw [show 0 + 8 * (i + 1) = 8 + 8 * i by omega]; rfl
  unfold zoBL
  rw [hf, page_back l _ (4096 - (8 + 8 * n)) 4096 (fun s hs => by rw [List.eq_of_mem_replicate hs]; decide) (by rw [spSz_true]; omega) h, resOk_true, show 8 * (1 + n) = 8 + 8 * n by omega, List.take_of_length_le (by rw [List.length_drop]; omega)]
theorem zo_okB (l : List (BitVec 8)) (h : l.length = 4096) : zoOkB l = zoFine l ∧ (zoFine l = true → zoRd l = zoL l (zoM l)) := by
  have h2 := num_two l (by omega)
  have h6 := num_zero l 2 6 (by omega) (by decide)
  have hlt : (num l 0 2).toNat < 65536 := num_lt l 0 2 (by omega) (by decide)
  by_cases hc : (num l 0 8).toNat ≤ 511
  · have z6 : (num l 2 6).toNat = 0 := by omega
    have em : zoM l = (num l 0 8).toNat := by unfold zoM; omega
    have en : zoN l = zoM l := by unfold zoN; rw [em]; omega
    refine ⟨?_, fun _ => by unfold zoRd; rw [en]⟩
    unfold zoOkB zoFine zoRd zoOkL
    rw [en, zo_back l h (zoM l) (by omega) em.symm, h6.1 z6, zoL_len, Bool.true_and, Bool.and_assoc]
  · have hf : zoFine l = false := by
      unfold zoFine
      by_cases q : zoM l ≤ 511
      · have : allZ (cut l 2 6) = false := by
          cases hz : allZ (cut l 2 6)
          · rfl
          · have := h6.2 hz; unfold zoM at q; omega
        rw [this, Bool.false_and, Bool.and_false]
      · rw [decide_eq_false q, Bool.false_and]
    rw [hf]
    refine ⟨?_, fun h => by cases h⟩
    unfold zoOkB
    have : (zoBL (zoRd l) == l) = false := by
      refine beq_eq_false_iff_ne.2 fun hh => ?_
      have hn : zoN l = 511 := by unfold zoN; omega
      have h8 := num_field (zoFl (zoRd l)) (zo_e _) (List.replicate (4096 - (Wire.cat (zoFl (zoRd l))).length) 0#8) 0 (BitVec.ofNat 64 (zoRd l).length, 8) rfl
      have h9 : num (zoBL (zoRd l)) 0 8 = BitVec.ofNat 64 511 := by
        have : (zoRd l).length = 511 := by unfold zoRd; rw [zoL_len, hn]
        rw [this] at h8; exact h8
      rw [hh] at h9
      rw [h9] at hc
      exact hc (by decide)
    rw [this, Bool.and_false]
theorem zo_dec (l : List (BitVec 8)) : decP 4096 zoRd zoOkB [] l = decP 4096 (fun l => zoL l (zoM l)) zoFine [] l := by
  unfold decP
  by_cases h1 : l.length < 4096
  · rw [if_pos h1, if_pos h1]
  · rw [if_neg h1, if_neg h1]
    by_cases h2 : 4096 < l.length
    · rw [if_pos h2, if_pos h2]
    · obtain ⟨e1, e2⟩ := zo_okB l (by omega)
      rw [if_neg h2, if_neg h2, e1]
      by_cases h3 : zoFine l = true
      · rw [if_pos h3, if_pos h3, e2 h3]
      · rw [if_neg h3, if_neg h3]
/-- The namespaces of bytes: those before the first zero. -/
def nsAll (l : List (BitVec 8)) : List (BitVec 32) := (List.range 1024).map fun i => (num l (4 * i) 4).setWidth 32
def nsRd (l : List (BitVec 8)) : List (BitVec 32) := (nsAll l).takeWhile (· != 0#32)
def nsOkB (l : List (BitVec 8)) : Bool := nsOkL (nsRd l) && (nsBL (nsRd l) == l)
def nsFine (l : List (BitVec 8)) : Bool := risB 0#32 (nsRd l) && allZ (l.drop (4 * (nsRd l).length))
theorem nsAll_len (l : List (BitVec 8)) : (nsAll l).length = 1024 := by unfold nsAll; rw [List.length_map, List.length_range]
theorem nsAll_get (l : List (BitVec 8)) (i : Nat) (h : i < 1024) : (nsAll l)[i]? = some ((num l (4 * i) 4).setWidth 32) := by unfold nsAll; rw [List.getElem?_map, List.getElem?_range h]; rfl
theorem nsRd_le (l : List (BitVec 8)) : (nsRd l).length ≤ 1024 := by
  have := (List.takeWhile_prefix (· != 0#32) (l := nsAll l)).length_le
  rw [nsAll_len] at this; exact this
theorem nsRd_take (l : List (BitVec 8)) : nsRd l = (nsAll l).take (nsRd l).length := (List.prefix_iff_eq_take.1 (List.takeWhile_prefix _))
theorem nsRd_get (l : List (BitVec 8)) (i : Nat) (h : i < (nsRd l).length) : (nsRd l)[i]? = some ((num l (4 * i) 4).setWidth 32) ∧ (num l (4 * i) 4).setWidth 32 ≠ 0#32 := by
  have h1 := nsRd_le l
  have e : (nsRd l)[i]? = some ((num l (4 * i) 4).setWidth 32) := by
    rw [nsRd_take, List.getElem?_take_of_lt h, nsAll_get l i (by omega)]
  refine ⟨e, ?_⟩
  have hm : (num l (4 * i) 4).setWidth 32 ∈ nsRd l := List.mem_of_getElem? e
  unfold nsRd at hm
  have := tw_all _ _ _ hm
  simpa using this
theorem takeWhile_end {α : Type} (p : α → Bool) (l : List α) (h : (l.takeWhile p).length < l.length) : ∃ x, l[(l.takeWhile p).length]? = some x ∧ p x = false := by
  induction l with
  | nil => exact absurd h (by simp)
  | cons y l ih =>
    rw [List.takeWhile_cons] at h ⊢
    cases hy : p y
    · rw [hy] at h; exact ⟨y, by simp, hy⟩
    · rw [hy] at h
      simp only [if_true, List.length_cons] at h ⊢
      obtain ⟨x, h1, h2⟩ := ih (by omega)
      exact ⟨x, by rw [List.getElem?_cons_succ]; exact h1, h2⟩
theorem nsRd_end (l : List (BitVec 8)) (h : (nsRd l).length < 1024) : (num l (4 * (nsRd l).length) 4).setWidth 32 = 0#32 := by
  obtain ⟨x, h1, h2⟩ := takeWhile_end (· != 0#32) (nsAll l) (by rw [nsAll_len]; exact h)
  replace h1 : (nsAll l)[(nsRd l).length]? = some x := h1
  rw [nsAll_get l _ h] at h1
  injection h1 with h1
  rw [← h1] at h2
  simpa using h2
/-- The first n dwords. -/
def nsN (l : List (BitVec 8)) (n : Nat) : List (BitVec 32) := (List.range n).map fun i => (num l (4 * i) 4).setWidth 32
theorem nsN_len (l : List (BitVec 8)) (n : Nat) : (nsN l n).length = n := by unfold nsN; rw [List.length_map, List.length_range]
theorem nsN_more (l : List (BitVec 8)) (n : Nat) : nsN l (n + 1) = nsN l n ++ [(num l (4 * n) 4).setWidth 32] := by unfold nsN; rw [List.range_succ, List.map_append]; rfl
theorem nsN_get (l : List (BitVec 8)) (n i : Nat) (h : i < n) : (nsN l n)[i]? = some ((num l (4 * i) 4).setWidth 32) := by unfold nsN; rw [List.getElem?_map, List.getElem?_range h]; rfl
theorem nsN_take (l : List (BitVec 8)) (n k : Nat) (h : k ≤ n) : (nsN l n).take k = nsN l k := by
  unfold nsN; rw [← List.map_take, List.take_range, Nat.min_eq_left h]
theorem nsRd_N (l : List (BitVec 8)) : nsRd l = nsN l (nsRd l).length := by
  refine (nsRd_take l).trans ?_
  exact nsN_take l 1024 _ (nsRd_le l)
theorem nsN_back (l : List (BitVec 8)) (h : l.length = 4096) (n : Nat) (h1 : n ≤ 1024) : (nsBL (nsN l n) == l) = allZ (l.drop (4 * n)) := by
  have hf : fl32 (nsN l n) = fieldsOf l 0 (List.replicate n (4, true)) := by
    rw [fieldsOf_true]
    unfold fl32 nsN
    rw [List.map_map]
    refine List.map_congr_left fun i hi => ?_
    have hi : i < n := List.mem_range.1 hi
    show (((num l (4 * i) 4).setWidth 32).setWidth 64, (4 : Int)) = (num l (0 + 4 * i) 4, _)
    rw [num_back32 l (4 * i) (by omega), Nat.zero_add]; rfl
  unfold nsBL
  rw [hf, page_back l _ (4096 - 4 * n) 4096 (fun s hs => by rw [List.eq_of_mem_replicate hs]; decide) (by rw [spSz_true]; omega) h, resOk_true, List.take_of_length_le (by rw [List.length_drop]; omega)]
theorem ns_back (l : List (BitVec 8)) (h : l.length = 4096) : (nsBL (nsRd l) == l) = allZ (l.drop (4 * (nsRd l).length)) := by
  have e := nsN_back l h _ (nsRd_le l)
  rw [← nsRd_N] at e
  exact e
theorem ns_dec (l : List (BitVec 8)) : decP 4096 nsRd nsOkB [] l = decP 4096 nsRd nsFine [] l := by
  refine decP_congr _ _ _ _ _ _ _ fun h => ⟨rfl, ?_⟩
  unfold nsOkB nsFine nsOkL
  rw [ns_back l h, decide_eq_true (nsRd_le l), Bool.true_and]
/-- Fields that are all laid. -/
def lT (fl : List WF) : List (WF × Bool) := fl.map fun f => (f, true)
theorem lT_fst (fl : List WF) : (lT fl).map (·.1) = fl := by unfold lT; rw [List.map_map]; exact List.map_id _
theorem plcT_more (s : Nat) (x : WF) : ∀ (fl : List WF) (a : Nat), (∀ f ∈ fl, f.2 = (s : Int)) → plc a (lT (fl ++ [x])) = plc a (lT fl) ++ [(a + s * fl.length, Wire.putB x.1 x.2)]
  | [], a, _ => by rw [List.length_nil, Nat.mul_zero, Nat.add_zero]; rfl
  | f :: fl, a, h => by
    have hf : f.2.toNat = s := by rw [h f List.mem_cons_self]; rfl
    have e : ∀ r : List WF, plc a (lT (f :: r)) = (a, Wire.putB f.1 f.2) :: plc (a + f.2.toNat) (lT r) := fun r => rfl
    rw [List.cons_append, e, e, hf, plcT_more s x fl (a + s) (fun g hg => h g (List.mem_cons_of_mem _ hg)), List.cons_append, List.length_cons, Nat.mul_succ, show a + s + s * fl.length = a + (s * fl.length + s) by omega]
theorem fl32_s (l : List (BitVec 32)) : ∀ f ∈ fl32 l, f.2 = ((4 : Nat) : Int) := fun f hf => by obtain ⟨x, -, rfl⟩ := List.mem_map.1 hf; rfl
theorem fl64_s (l : List (BitVec 64)) : ∀ f ∈ fl64 l, f.2 = ((8 : Nat) : Int) := fun f hf => by obtain ⟨x, -, rfl⟩ := List.mem_map.1 hf; rfl
theorem fl32_snoc (l : List (BitVec 32)) (x : BitVec 32) : fl32 (l ++ [x]) = fl32 l ++ [(x.setWidth 64, 4)] := by unfold fl32; rw [List.map_append]; rfl
theorem fl64_snoc (l : List (BitVec 64)) (x : BitVec 64) : fl64 (l ++ [x]) = fl64 l ++ [(x, 8)] := by unfold fl64; rw [List.map_append]; rfl
theorem fl32_n (l : List (BitVec 32)) : (fl32 l).length = l.length := by unfold fl32; rw [List.length_map]
theorem fl64_n (l : List (BitVec 64)) : (fl64 l).length = l.length := by unfold fl64; rw [List.length_map]
/-- What is laid so far. -/
def nsP (N : Nat) (l : List (BitVec 32)) : List (BitVec 8) := Lay.lays (List.replicate N 0#8) (plc 0 (lT (fl32 l)))
theorem nsP_more (N : Nat) (l : List (BitVec 32)) (x : BitVec 32) : Lay.lay (nsP N l) (4 * l.length) (Wire.le (x.setWidth 64) 4) = nsP N (l ++ [x]) := by
  unfold nsP
  rw [fl32_snoc, plcT_more 4 (x.setWidth 64, 4) (fl32 l) 0 (fl32_s l), Lay.lays_snoc, fl32_n, Nat.zero_add, (fit32 x).2]
theorem nsP_all (N : Nat) (l : List (BitVec 32)) (h : 4 * l.length ≤ N) : nsP N l = pageB N (fl32 l) := by
  have := lays_page (lT (fl32 l)) N (fun f hf => by
    obtain ⟨g, hg, rfl⟩ := List.mem_map.1 hf
    obtain ⟨x, -, rfl⟩ := List.mem_map.1 hg
    exact ⟨(fit32 x).1, fun h => by cases h⟩) (by rw [lT_fst, fl32_sz]; exact h)
  rw [lT_fst] at this
  exact this
theorem le_two (n : BitVec 64) (h : n.toNat < 65536) : Wire.le n 8 = Wire.le n 2 ++ List.replicate 6 0#8 := by
  have z : ∀ i, 2 ≤ i → (n >>> (8 * i)).setWidth 8 = 0#8 := fun i hi => by
    apply BitVec.eq_of_toNat_eq
    rw [BitVec.toNat_setWidth, BitVec.toNat_ushiftRight, Nat.shiftRight_eq_div_pow, Nat.div_eq_of_lt (Nat.lt_of_lt_of_le h (Nat.le_trans (by decide : 65536 ≤ 2 ^ 16) (Nat.pow_le_pow_right (by decide) (by omega))))]; rfl
  unfold Wire.le
  simp only [show List.range 8 = [0, 1, 2, 3, 4, 5, 6, 7] from rfl, show List.range 2 = [0, 1] from rfl, List.map_cons, List.map_nil]
  rw [z 2 (by decide), z 3 (by decide), z 4 (by decide), z 5 (by decide), z 6 (by decide), z 7 (by decide)]
  rfl
def zoP (n : Nat) (l : List (BitVec 64)) : List (BitVec 8) := Lay.lays (Lay.lay (List.replicate 4096 0#8) 0 (Wire.le (BitVec.ofNat 64 n) 2)) (plc 8 (lT (fl64 l)))
theorem zoP_nil (n : Nat) : zoP n [] = Lay.lay (List.replicate 4096 0#8) 0 (Wire.le (BitVec.ofNat 64 n) 2) := by
  unfold zoP
  rw [show plc 8 (lT (fl64 [])) = [] from rfl, Lay.lays_nil]
theorem nsP_nil (N : Nat) : nsP N [] = List.replicate N 0#8 := by
  unfold nsP
  rw [show plc 0 (lT (fl32 [])) = [] from rfl, Lay.lays_nil]
theorem zoP_more (n : Nat) (l : List (BitVec 64)) (x : BitVec 64) : Lay.lay (zoP n l) (8 + 8 * l.length) (Wire.le x 8) = zoP n (l ++ [x]) := by
  unfold zoP
  rw [fl64_snoc, plcT_more 8 (x, 8) (fl64 l) 8 (fl64_s l), Lay.lays_snoc, fl64_n, (fit64 x).2]
theorem zoP_all (l : List (BitVec 64)) (h : l.length ≤ 511) : zoP l.length l = zoBL l := by
  have hn : (BitVec.ofNat 64 l.length).toNat = l.length := by rw [BitVec.toNat_ofNat, Nat.mod_eq_of_lt (by omega)]
  have f2 := fit_any (BitVec.ofNat 64 l.length) 2 (by decide) (by decide) (by rw [hn]; omega)
  have f6 := fit0 6 (by decide) (by decide)
  have := lays_page (((BitVec.ofNat 64 l.length, 2), true) :: ((0#64, 6), false) :: lT (fl64 l)) 4096 (by
    rw [List.forall_mem_cons, List.forall_mem_cons]
    refine ⟨⟨f2.1, fun h => by cases h⟩, ⟨f6.1, fun _ => rfl⟩, fun f hf => ?_⟩
    obtain ⟨g, hg, rfl⟩ := List.mem_map.1 hf
    obtain ⟨x, -, rfl⟩ := List.mem_map.1 hg
    exact ⟨(fit64 x).1, fun h => by cases h⟩) (by
    rw [List.map_cons, List.map_cons, lT_fst]
    show 2 + (6 + sz (fl64 l)) ≤ 4096
    rw [fl64_sz]; omega)
  rw [List.map_cons, List.map_cons, lT_fst] at this
  have e1 : zoP l.length l = Lay.lays (List.replicate 4096 0#8) (plc 0 (((BitVec.ofNat 64 l.length, 2), true) :: ((0#64, 6), false) :: lT (fl64 l))) := by
    have : plc 0 (((BitVec.ofNat 64 l.length, 2), true) :: ((0#64, 6), false) :: lT (fl64 l)) = (0, Wire.putB (BitVec.ofNat 64 l.length) 2) :: plc 8 (lT (fl64 l)) := rfl
    rw [this, show Wire.putB (BitVec.ofNat 64 l.length) 2 = Wire.le (BitVec.ofNat 64 l.length) 2 from f2.2]
    rfl
  rw [e1, this]
  have e2 : Wire.cat ((BitVec.ofNat 64 l.length, 2) :: (0#64, 6) :: fl64 l) = Wire.cat (zoFl l) := by
    unfold zoFl Wire.cat
    rw [List.flatMap_cons, List.flatMap_cons, List.flatMap_cons, ← List.append_assoc]
    refine congrArg (· ++ _) ?_
    show Wire.putB (BitVec.ofNat 64 l.length) (2 : Nat) ++ Wire.putB 0#64 (6 : Nat) = Wire.putB (BitVec.ofNat 64 l.length) 8
    rw [f2.2, f6.2, (fit64 _).2, le_two _ (by rw [hn]; omega)]
  unfold zoBL pageB
  rw [e2]
/-- Effects. -/
def efB (a b : List (BitVec 32)) : List (BitVec 8) := nsBL (a ++ b)
def ioN (l : List (BitVec 8)) (n : Nat) : List (BitVec 32) := (List.range n).map fun i => (num l (1024 + 4 * i) 4).setWidth 32
theorem ioN_len (l : List (BitVec 8)) (n : Nat) : (ioN l n).length = n := by unfold ioN; rw [List.length_map, List.length_range]
theorem ioN_more (l : List (BitVec 8)) (n : Nat) : ioN l (n + 1) = ioN l n ++ [(num l (1024 + 4 * n) 4).setWidth 32] := by unfold ioN; rw [List.range_succ, List.map_append]; rfl
theorem ef_split (l : List (BitVec 8)) : nsN l 512 = nsN l 256 ++ ioN l 256 := by
  unfold nsN ioN
  rw [show (512 : Nat) = 256 + 256 from rfl, List.range_add, List.map_append, List.map_map]
  refine congrArg (fun z => (List.range 256).map (fun i => BitVec.setWidth 32 (num l (4 * i) 4)) ++ z) (List.map_congr_left fun i _ => ?_)
  show (num l (4 * (256 + i)) 4).setWidth 32 = _
  rw [show 4 * (256 + i) = 1024 + 4 * i by omega]
theorem ef_back (l : List (BitVec 8)) (h : l.length = 4096) : (efB (nsN l 256) (ioN l 256) == l) = allZ (l.drop 2048) := by
  unfold efB
  rw [← ef_split, nsN_back l h 512 (by decide)]
theorem lay_left (A B d : List (BitVec 8)) (p : Nat) (h : p + d.length ≤ A.length) : Lay.lay (A ++ B) p d = Lay.lay A p d ++ B := by
  unfold Lay.lay
  rw [List.take_append_of_le_length (by omega), List.drop_append_of_le_length h]; simp only [List.append_assoc]
theorem lay_right (A B d : List (BitVec 8)) (p : Nat) : Lay.lay (A ++ B) (A.length + p) d = A ++ Lay.lay B p d := by
  unfold Lay.lay
  rw [List.take_length_add_append, Nat.add_assoc, List.drop_length_add_append]; simp only [List.append_assoc]
theorem nsP_len (N : Nat) (l : List (BitVec 32)) (h : 4 * l.length ≤ N) : (nsP N l).length = N := by
  rw [nsP_all N l h]; exact pageB_len (by rw [cat_len0 _ (fl32_e l), fl32_sz]; exact h)
def efP (a b : List (BitVec 32)) : List (BitVec 8) := nsP 1024 a ++ nsP 3072 b
theorem efP_a (a b : List (BitVec 32)) (x : BitVec 32) (h : a.length < 256) : Lay.lay (efP a b) (4 * a.length) (Wire.le (x.setWidth 64) 4) = efP (a ++ [x]) b := by
  unfold efP
  rw [lay_left _ _ _ _ (by rw [nsP_len 1024 a (by omega), Wire.le_len]; omega), nsP_more]
theorem efP_b (a b : List (BitVec 32)) (x : BitVec 32) (h : a.length ≤ 256) : Lay.lay (efP a b) (1024 + 4 * b.length) (Wire.le (x.setWidth 64) 4) = efP a (b ++ [x]) := by
  unfold efP
  have e := nsP_len 1024 a (by omega)
  have := lay_right (nsP 1024 a) (nsP 3072 b) (Wire.le (x.setWidth 64) 4) (4 * b.length)
  rw [e] at this
  rw [this, nsP_more]
theorem efP_all (a b : List (BitVec 32)) (ha : a.length = 256) (hb : b.length = 256) : efP a b = efB a b := by
  unfold efP efB nsBL
  rw [nsP_all 1024 a (by omega), nsP_all 3072 b (by omega)]
  have e : fl32 (a ++ b) = fl32 a ++ fl32 b := by unfold fl32; rw [List.map_append]
  have c : Wire.cat (fl32 (a ++ b)) = Wire.cat (fl32 a) ++ Wire.cat (fl32 b) := by rw [e]; unfold Wire.cat; rw [List.flatMap_append]
  have na : (Wire.cat (fl32 a)).length = 1024 := by rw [cat_len0 _ (fl32_e a), fl32_sz]; omega
  have nb : (Wire.cat (fl32 b)).length = 1024 := by rw [cat_len0 _ (fl32_e b), fl32_sz]; omega
  unfold pageB
  rw [c, List.length_append, na, nb, Nat.sub_self, List.replicate_zero, List.append_nil, List.append_assoc]
end Lg
end Go.Proofs.YthnnopjakpjoeaaDoor
namespace Go.Proofs.YthnnopjakpjoeaaDoor
open Go.RowKit Lg
set_option linter.unusedVariables false
set_option linter.unusedSimpArgs false
def wh (l : List (BitVec 32)) : List Value := l.map fun y => .int .u32 (uv y)
theorem wh_get (l : List (BitVec 32)) (k : Nat) (x : BitVec 32) (h : l[k]? = some x) : (wh l)[k]? = some (.int .u32 (uv x)) := by
  unfold wh; rw [List.getElem?_map, h]; rfl
theorem w32Ok : ElemOk Tryd.prog 89 24 (.int .u32 0) 1 4 :=
  ⟨Tryd.underlying89, info_parts (by kernel_rfl), rfl, by decide⟩
theorem app_w32 {ops : Array Oper} {rest : List Oper} {o : Oper} {a : Act} {Q : Exit → Act → World → Prop} {W : World} (hgd : o.guard = none) (s x : Operand) (ho : o.op = .call { callee := .builtin .append, args := #[s, x], argTypes := #[89, 89] })
    (u : Value) (base n : Nat) (ks : List (BitVec 32)) (hs : a.eval s = u) (hown : W.ownsRow base 24 1 u n (wh ks)) (hbase : base ≤ W.heap.size) (y : BitVec 32) (ty : TypeId) (hx : a.eval x = .slice (some ⟨W.heap.size, 0, none⟩) 1 1) (hl : n ≤ 100000)
    (h : ∀ v' w', w'.ownsRow base 24 1 v' (n + 1) (wh (ks ++ [y])) → (W.alloc (.cells #[.int .u32 (uv y)] ty)).grownBy w' u.ownBlock → wpList Tryd.prog ops Q rest (a.put o.dst v') w') : wpList Tryd.prog ops Q (o :: rest) a (W.alloc (.cells #[.int .u32 (uv y)] ty)) := by
  have hb := gr_alloc W (.cells #[.int .u32 (uv y)] ty)
  refine app_law_at w32Ok hgd s x ho base u n (wh ks) hs (own_below hown hb) (some ⟨W.heap.size, 0, none⟩) 1 1 (wh [y]) hx some_none (Nat.le_refl _) (Row.lit W #[.int .u32 (uv y)] ty (0, 0)) rfl (by intro u hu; simp [wh] at hu; subst hu; rfl) (by omega) (by omega) (Nat.le_trans hbase hb.size) ?_
  intro v' w' h1 h2 h3
  exact h v' w' (by unfold wh at h1 ⊢; rw [List.map_append]; exact h1) h2
theorem chg_growN {w wr w2 : World} {p : Nat} {e : TypeId} {size n : Nat} {u : Value} {xs : List Value} (hc : Chg (fun b => b = p) w wr) (ho : wr.ownsRow w.heap.size e size u n xs) (hg : wr.grownBy w2 u.ownBlock) : Chg (fun b => b = p) w w2 :=
  Chg.below_base (fun b => b = p) hc hg (fun k hk => (ho.lt k hk).1)
theorem own_shape4 {w : World} {base : Nat} {e : TypeId} {size : Nat} {v : Value} {n : Nat} {xs : List Value} (h : w.ownsRow base e size v n xs) : ∃ a c, v = .slice a n c := by
  obtain ⟨h1, h2⟩ := h
  rcases h2 with ⟨rfl, rfl⟩ | ⟨g, cap, cur, hv, _⟩
  · exact ⟨_, _, rfl⟩
  · exact ⟨_, _, hv⟩
theorem own_addr4 {w : World} {base n : Nat} {e : TypeId} {v : Value} {xs : List Value} (h : w.ownsRow base e 1 v n xs) (hn : 0 < n) : ∃ g c, v = .slice (some ⟨g, 0, none⟩) n c ∧ base ≤ g ∧ n ≤ c ∧ c ≤ 9223372036854775807 := by
  obtain ⟨h1, h2⟩ := h
  rcases h2 with ⟨_, h0⟩ | ⟨g, cap, cur, rfl, hg, _, r1, r2, _⟩
  · omega
  · exact ⟨g, cap, rfl, hg, r1, r2⟩
def lenOf : Value → Nat | .slice _ n _ => n | _ => 0
namespace Lg
/-- What is read at a place; 0 at the end. -/
def nxt (l : List (BitVec 8)) (k : Nat) : BitVec 64 := if k < 1024 then num l (4 * k) 4 else 0#64
def nsL (l : List (BitVec 8)) : Nat := (nsRd l).length
theorem nxt_lt (l : List (BitVec 8)) (k : Nat) (h : k < 1024) : nxt l k = num l (4 * k) 4 := by unfold nxt; rw [if_pos h]
theorem nxt_ne (l : List (BitVec 8)) (k : Nat) (h : k < nsL l) : nxt l k ≠ 0#64 := by
  have h1 := nsRd_le l
  rw [nxt_lt l k (by unfold nsL at h; omega)]
  intro h0
  exact (nsRd_get l k h).2 (by rw [h0]; rfl)
theorem nxt_end (l : List (BitVec 8)) (hl : l.length = 4096) : nxt l (nsL l) = 0#64 := by
  unfold nxt
  by_cases h : nsL l < 1024
  · rw [if_pos h]
    have h0 := nsRd_end l h
    have h2 := num_back32 l (4 * nsL l) (by omega)
    unfold nsL at h2 ⊢
    rw [← h2, h0]; rfl
  · rw [if_neg h]
theorem nsN_nx (l : List (BitVec 8)) (k : Nat) (h : k < 1024) : nsN l (k + 1) = nsN l k ++ [(nxt l k).setWidth 32] := by rw [nsN_more, nxt_lt l k h]
theorem nsRd_eq (l : List (BitVec 8)) : nsRd l = nsN l (nsL l) := nsRd_N l
theorem nsL_le (l : List (BitVec 8)) : nsL l ≤ 1024 := nsRd_le l
theorem nsF (l : List (BitVec 8)) : nsFine l = (risB 0#32 (nsN l (nsL l)) && allZ (l.drop (4 * nsL l))) := by
  unfold nsFine nsL; rw [← nsRd_N]
end Lg
set_option maxHeartbeats 3200000 in
set_option maxRecDepth 20000 in
theorem readN_at {d : Nat} (p : Nat) (v : Value) (l : List (BitVec 8)) (w : World) (hp : RdAt w 287 p d v l 0) (hl : l.length = 4096) :
    Calls Tryd.prog 103 #[.pointer (some ⟨p, 0, none⟩)] w fun e w' => ∃ u, e = .returned u ∧ w'.ownsRow w.heap.size 24 1 u (nsRd l).length (wh (nsRd l)) ∧ Chg (fun b => b = p) w w' := by
  have NE := Lib.hid (nxt_ne l)
  have NEND := Lib.hid (nxt_end l hl)
  have NNX := Lib.hid (nsN_nx l)
  have NLT := Lib.hid (nxt_lt l)
  have NGE := Lib.hid (show nxt l 1024 = 0#64 from if_neg (by decide))
  have NRD := Lib.hid (nsRd_eq l)
  have NLE := Lib.hid (nsL_le l)
  obtain ⟨X, hX⟩ : ∃ X, nxt l = X := ⟨_, rfl⟩
  obtain ⟨n, hn⟩ : ∃ n, nsL l = n := ⟨_, rfl⟩
  rw [hX] at NE NEND NNX NLT NGE
  rw [hn] at NE NEND NRD NLE
  have HL := Lib.hid hl
  have PLT := Lib.hid hp.lt
  have R0 := Lib.hid (show RdAt w 287 p d v (l.drop 0) 0 by rw [List.drop_zero]; exact hp)
  clear hX hn hl hp
  go_enter Tryd.func103, Tryd.ntmps103
  go_upto_region 2 with (go_at_call 104; go_loud (refine (next_at p v l 0 0 4 4 (X 0) w rfl R0.out (by decide) (by decide) (by rw [HL.out]; decide) (NLT.out 0 (by decide)).symm).mono ?_; rintro r w1 ⟨rfl, ⟨v1, hr⟩, hc⟩; have R1 := Lib.hid hr; have C1 := Lib.hid hc; clear hr hc))
  go_loopw [2, 3] (fun u i wr => ∃ k : Nat, k ≤ n ∧ i = .int .u64 (uv (X k)) ∧ wr.ownsRow w.heap.size 24 1 u k (wh (nsN l k)) ∧ (k < 1024 → ∃ vk, RdAt wr 287 p d vk (l.drop (4 + 4 * k)) (4 + 4 * k)) ∧ Chg (fun b => b = p) w wr) (fun u _ _ => n - (lenOf u))
  case atStart => exact ⟨0, by omega, rfl, World.ownsRow_nil _ _ _ _, fun _ => ⟨_, R1.out⟩, C1.out⟩
  case round =>
    obtain ⟨k, hk, rfl, ho, hr, hb⟩ := hrel
    have O2 := Lib.hid ho; have R2 := Lib.hid hr; have C2 := Lib.hid hb; clear ho hr hb
    obtain ⟨x, hx⟩ : ∃ x, X k = x := ⟨_, rfl⟩
    have HX := Lib.hid hx
    rw [hx]
    obtain ⟨au, cu, hu⟩ := own_shape4 O2.out
    subst hu
    by_cases hlt : k < n
    · have hne : (uv x != 0) = true := by
        have h := NE.out k hlt
        rw [hx] at h
        have h2 := uv_pos x h
        exact bne_iff_ne.2 (by omega)
      have hk4 := NLE.out
      obtain ⟨vk, hrk⟩ := R2.out (by omega)
      have RK := Lib.hid hrk
      have ZM := Lib.hid (show nsN l (k + 1) = nsN l k ++ [x.setWidth 32] by rw [NNX.out k (by omega), hx])
      have HK4 := Lib.hid hk4
      clear hx hrk hk4 R2
      by_cases hend : k + 1 < 1024
      · obtain ⟨z, hz⟩ : ∃ z, X (k + 1) = z := ⟨_, rfl⟩
        have HZ := Lib.hid hz
        have HZN := Lib.hid ((NLT.out (k + 1) hend).symm.trans hz)
        have HEND := Lib.hid hend
        clear hz hend
        go_wp2_with (first
          | (at_builtin; refine app_w32 rfl (.tmp 10) (.tmp 13) rfl _ w.heap.size k (nsN l k) rfl O2.out C2.out.size (x.setWidth 32) _ rfl (by have := HK4.out; omega) ?_; intro v2 w4 ho hg; have O4 := Lib.hid ho; have C3 := Lib.hid (C2.out.trans (Chg.of_below (gr_alloc wr (.cells #[.int .u32 (uv (x.setWidth 32))] 24)))); have O3 := Lib.hid (own_below O2.out (gr_alloc wr (.cells #[.int .u32 (uv (x.setWidth 32))] 24))); have C4 := Lib.hid (chg_growN C3.out O3.out hg); have R4 := Lib.hid ((RK.out.below (gr_alloc wr (.cells #[.int .u32 (uv (x.setWidth 32))] 24))).base hg (own_gt O3.out PLT.out)); clear ho hg)
          | (go_at_call 104; go_loud (refine (next_at p vk l (4 + 4 * k) (4 + 4 * k) 4 4 z w4 rfl R4.out (by decide) (by decide) (by rw [HL.out]; have := HEND.out; omega) (by rw [show 4 + 4 * k = 4 * (k + 1) by omega]; exact HZN.out)).mono ?_; rintro r w5 ⟨rfl, ⟨v5, hr⟩, hc⟩; have R5 := Lib.hid hr; have C5 := Lib.hid (C4.out.trans hc); have O5 := Lib.hid (own_chg O4.out hc (fun k hk => by have h1 := (O4.out.lt k hk).1; have h2 := PLT.out; omega)); clear hr hc)))
        go_roundw
        case rel => exact ⟨k + 1, by omega, by rw [HZ.out], by rw [ZM.out]; exact O5.out, fun _ => ⟨_, by have h := R5.out; rwa [show 4 + 4 * k + 4 = 4 + 4 * (k + 1) by omega] at h⟩, C5.out⟩
        case measure =>
          obtain ⟨a5, c5, h5⟩ := own_shape4 O5.out
          rw [h5]
          show n - (k + 1) < n - k
          omega
      · have HK5 := Lib.hid (show k + 1 = 1024 by have := HK4.out; omega)
        clear hend
        go_wp2_with (first
          | (at_builtin; refine app_w32 rfl (.tmp 10) (.tmp 13) rfl _ w.heap.size k (nsN l k) rfl O2.out C2.out.size (x.setWidth 32) _ rfl (by have := HK4.out; omega) ?_; intro v2 w4 ho hg; have O4 := Lib.hid ho; have C3 := Lib.hid (C2.out.trans (Chg.of_below (gr_alloc wr (.cells #[.int .u32 (uv (x.setWidth 32))] 24)))); have O3 := Lib.hid (own_below O2.out (gr_alloc wr (.cells #[.int .u32 (uv (x.setWidth 32))] 24))); have C4 := Lib.hid (chg_growN C3.out O3.out hg); have R4 := Lib.hid ((RK.out.below (gr_alloc wr (.cells #[.int .u32 (uv (x.setWidth 32))] 24))).base hg (own_gt O3.out PLT.out)); clear ho hg)
          | (go_at_call 104; go_loud (refine (next_no p vk _ _ 4 4 w4 rfl R4.out (by decide) (by decide) (by rw [List.length_drop, HL.out]; have := HK5.out; omega)).mono ?_; rintro r w5 ⟨rfl, hw⟩; have C5 := Lib.hid (C4.out.trans (Chg.of_below hw)); have O5 := Lib.hid (own_below O4.out hw); clear hw)))
        go_roundw
        case rel => exact ⟨k + 1, by omega, by rw [HK5.out, NGE.out]; rfl, by rw [ZM.out]; exact O5.out, fun h => absurd h (by have := HK5.out; omega), C5.out⟩
        case measure =>
          obtain ⟨a5, c5, h5⟩ := own_shape4 O5.out
          rw [h5]
          show n - (k + 1) < n - k
          omega
    · obtain rfl : k = n := by omega
      have hne : (uv x != 0) = false := by rw [← hx, NEND.out]; rfl
      clear hx
      go_wp2
      go_ret
      exact ⟨_, rfl, by rw [NRD.out, nsN_len]; exact O2.out, C2.out⟩
set_option maxHeartbeats 3200000 in
set_option maxRecDepth 20000 in
theorem decoded_N (l : List (BitVec 8)) (bv : Value) (w : World) (y : List (BitVec 32)) (e : Int) (hb : BytesV w bv l) (hl : l.length ≤ 140737488355328) (hd : decP 4096 nsRd nsOkB [] l = (y, e)) :
    Calls Tryd.prog 102 #[bv, .int .i64 4096, .func (.func 103) #[] #[], .func (.func 39) #[] #[]] w fun r w' => ∃ u, r = .returned (.tuple #[u, .int .i64 e]) ∧ SliceV w' (fun y : BitVec 32 => [Value.int .u32 (uv y)]) u y ∧ Below w.heap.size w w' := by
  obtain ⟨av, cv, rfl, hv0, hv1, hv2, hv3⟩ := id hb
  have hm : l.length ≤ 9223372036854775807 := by omega
  have BV := Lib.hid hb
  have HLL := Lib.hid hl
  clear hb hv0 hv1 hv2 hv3 hl
  unfold decP at hd
  by_cases p1 : l.length < 4096
  · rw [if_pos p1] at hd
    cases hd
    have d1 : decide ((l.length : Int) < 4096) = true := decide_eq_true (by omega)
    have d1b : decide (l.length < 4096) = true := decide_eq_true (by omega)
    clear p1
    go_enter Tryd.func102, Tryd.ntmps102
    go_wp2
    go_ret2
    exact ⟨_, rfl, SliceV.nil0 _, Below.refl _ _⟩
  rw [if_neg p1] at hd
  have d1 : decide ((l.length : Int) < 4096) = false := decide_eq_false (by omega)
  have d1b : decide (l.length < 4096) = false := decide_eq_false (by omega)
  by_cases p2 : 4096 < l.length
  · rw [if_pos p2] at hd
    cases hd
    have d2 : decide (4096 < (l.length : Int)) = true := decide_eq_true (by omega)
    have d2b : decide (4096 < l.length) = true := decide_eq_true (by omega)
    clear p1 p2
    go_enter Tryd.func102, Tryd.ntmps102
    go_wp2
    go_ret2
    exact ⟨_, rfl, SliceV.nil0 _, Below.refl _ _⟩
  rw [if_neg p2] at hd
  have d2 : decide (4096 < (l.length : Int)) = false := decide_eq_false (by omega)
  have d2b : decide (4096 < l.length) = false := decide_eq_false (by omega)
  have HL := Lib.hid (show l.length = 4096 by omega)
  have HD := Lib.hid hd
  clear p1 p2 hd
  obtain ⟨x, hx⟩ : ∃ x, nsRd l = x := ⟨_, rfl⟩
  have HXL := Lib.hid (show x.length ≤ 1000000 by rw [← hx]; have := nsRd_le l; omega)
  have HX := Lib.hid hx
  clear hx
  obtain ⟨bo, hbo⟩ : ∃ b, nsOkL x = b := ⟨_, rfl⟩
  have HO := Lib.hid hbo; clear hbo
  go_enter Tryd.func102, Tryd.ntmps102
  go_upto_region 6 with (first
    | (go_at_call 149; go_loud (refine (NewReader_any _ l w BV.out HLL.out).mono ?_; rintro r w1 ⟨p, v, rfl, hp, hr, hw⟩; have HP := Lib.hid hp; have R1 := Lib.hid hr; have D1 := Lib.hid hw; clear hp hr hw))
    | (go_at_call 103; go_loud (refine (readN_at p v l _ R1.out HL.out).mono ?_; rw [HX.out]; rintro r w2 ⟨u, rfl, ho, hc⟩; have D2 := Lib.hid (hc.fresh D1.out (fun k hk => by have h1 := HP.out; subst hk; omega)); have S2 := Lib.hid (SliceV.of_w32 ho); clear ho hc)))
  clear d1 d1b d2 d2b
  have B2 := Lib.hid (BV.out.below D2.out)
  cases bo
  · have EC := fun w h => EncN_at u x 2 [] w h HXL.out (by unfold nsEL; rw [HO.out]; rfl) (by unfold nsRL; rw [HO.out]; rfl)
    go_wp2_with (go_at_call 39; go_loud (refine (EC _ S2.out).mono ?_; rintro r w4 ⟨u4, rfl, hu, hw⟩; have D4 := Lib.hid (gr_tr D2.out hw); clear hu hw))
    obtain ⟨e1, e2⟩ : y = [] ∧ e = 6 := by
      have h := HD.out
      unfold nsOkB at h
      rw [HX.out, HO.out] at h
      simp at h
      first | exact ⟨h.1.symm, h.2.symm⟩ | exact ⟨h.1, h.2.symm⟩
    rw [e1, e2]
    go_ret2
    exact ⟨_, rfl, SliceV.nil0 _, D4.out⟩
  have EC := fun w h => EncN_at u x 0 (nsBL x) w h HXL.out (by unfold nsEL; rw [HO.out]; rfl) (by unfold nsRL; rw [HO.out]; rfl)
  obtain ⟨bq, hbq⟩ : ∃ b, (nsBL x == l) = b := ⟨_, rfl⟩
  have HQ := Lib.hid hbq; clear hbq
  obtain ⟨NB, hNB⟩ : ∃ B, nsBL x = B := ⟨_, rfl⟩
  rw [hNB] at EC
  have HQN := Lib.hid (show (NB == l) = bq by rw [← hNB]; exact HQ.out)
  clear hNB
  cases bq
  · go_wp2_with (first
      | (go_at_call 39; go_loud (refine (EC _ S2.out).mono ?_; rintro r w4 ⟨u4, rfl, hu, hw⟩; have U := Lib.hid (hu); have B4 := Lib.hid (B2.out.below hw); have D4 := Lib.hid (gr_tr D2.out hw); clear hu hw))
      | (go_at_call 128; go_loud (refine (eqB_at _ _ _ _ _ _ U.out B4.out HQN.out).mono ?_; rintro r w5 ⟨rfl, rfl⟩)))
    obtain ⟨e1, e2⟩ : y = [] ∧ e = 6 := by
      have h := HD.out
      unfold nsOkB at h
      rw [HX.out, HO.out, HQ.out] at h
      simp at h
      first | exact ⟨h.1.symm, h.2.symm⟩ | exact ⟨h.1, h.2.symm⟩
    rw [e1, e2]
    go_ret2
    exact ⟨_, rfl, SliceV.nil0 _, D4.out⟩
  · go_wp2_with (first
      | (go_at_call 39; go_loud (refine (EC _ S2.out).mono ?_; rintro r w4 ⟨u4, rfl, hu, hw⟩; have U := Lib.hid (hu); have B4 := Lib.hid (B2.out.below hw); have S4 := Lib.hid (S2.out.below hw); have D4 := Lib.hid (gr_tr D2.out hw); clear hu hw))
      | (go_at_call 128; go_loud (refine (eqB_at _ _ _ _ _ _ U.out B4.out HQN.out).mono ?_; rintro r w5 ⟨rfl, rfl⟩)))
    obtain ⟨e1, e2⟩ : y = x ∧ e = 0 := by
      have h := HD.out
      unfold nsOkB at h
      rw [HX.out, HO.out, HQ.out] at h
      simp at h
      first | exact ⟨h.1.symm, h.2.symm⟩ | exact ⟨h.1, h.2.symm⟩
    rw [e1, e2]
    go_ret2
    exact ⟨_, rfl, S4.out, D4.out⟩
set_option maxHeartbeats 1600000 in
set_option maxRecDepth 20000 in
theorem Decode_N (l : List (BitVec 8)) (bv : Value) (w : World) (y : List (BitVec 32)) (e : Int) (hb : BytesV w bv l) (hl : l.length ≤ 140737488355328) (hd : decP 4096 nsRd nsOkB [] l = (y, e)) :
    Calls Tryd.prog 42 #[bv] w fun r w' => ∃ u, r = .returned (.tuple #[u, .int .i64 e]) ∧ SliceV w' (fun y : BitVec 32 => [Value.int .u32 (uv y)]) u y ∧ Below w.heap.size w w' := by
  have BV := Lib.hid hb; have HL := Lib.hid hl; have HD := Lib.hid hd
  clear hb hl hd
  go_enter Tryd.func42, Tryd.ntmps42
  go_wp2_with (go_at_call 102; go_loud (refine (decoded_N l _ _ y e BV.out HL.out HD.out).mono ?_; rintro r w3 ⟨u, rfl, hs, hw⟩; have S3 := Lib.hid hs; have D3 := Lib.hid hw; clear hs hw))
  go_ret2
  exact ⟨_, rfl, S3.out, D3.out⟩
set_option maxRecDepth 20000 in
set_option maxHeartbeats 3200000 in
theorem rEncN_at (v : Value) (l : List (BitVec 32)) (e : Int) (B : List (BitVec 8)) (w : World) (hv : SliceV w (fun y : BitVec 32 => [Value.int .u32 (uv y)]) v l) (hl : l.length ≤ 1000000) (he : nsEL l = e) (hB : nsRL l = B) :
    Calls Tryd.prog 40 #[v] w fun r w' => ∃ u, r = .returned (.tuple #[u, .int .i64 e]) ∧ BytesV w' u B ∧ Below w.heap.size w w' := by
  obtain ⟨ad, c, rfl, h0, h1, h2, h3⟩ := hv
  have ROW := Lib.hid (show Row w ad (wh l) by rw [flat1] at h3; exact h3)
  have hm : (l.length : Int) ≤ 9223372036854775807 := by omega
  unfold nsEL at he
  unfold nsRL at hB
  have HE := Lib.hid he; have HB := Lib.hid hB
  clear h0 h1 h2 h3 he hB hl
  by_cases h5 : 1024 < l.length
  · have ho : nsOkL l = false := by unfold nsOkL; rw [decide_eq_false (by omega : ¬ l.length ≤ 1024), Bool.false_and]
    have he := HE.out; have hB := HB.out
    rw [ho] at he hB
    simp only [Bool.false_eq_true, if_false] at he hB
    subst he hB
    have d1 : decide ((1024 : Int) < l.length) = true := decide_eq_true (by omega)
    have d2 : decide (1024 < l.length) = true := decide_eq_true h5
    clear h5 ho HE HB
    go_enter Tryd.func40, Tryd.ntmps40
    go_wp2
    go_ret2
    exact ⟨_, rfl, BytesV.nil _, Below.refl _ _⟩
  have d1 : decide ((1024 : Int) < l.length) = false := decide_eq_false (by omega)
  have d2 : decide (1024 < l.length) = false := decide_eq_false h5
  have H5 := Lib.hid (show l.length ≤ 1024 by omega)
  clear h5
  have PZ := Lib.hid (nsP_nil 4096)
  have PM := Lib.hid (fun (m : List (BitVec 32)) (x : BitVec 32) => nsP_more 4096 m x)
  have PA := Lib.hid (show nsP 4096 l = nsBL l from nsP_all 4096 l (by have := H5.out; omega))
  go_enter Tryd.func40, Tryd.ntmps40
  go_upto_region 4 with (refine make_law bytesOk rfl _ _ rfl w.heap.size .i64 .i64 4096 4096 4096 rfl rfl rfl rfl (by omega) (by omega) (Nat.le_refl _) ?_; intro w2 hown hgrow; have O3 := Lib.hid (show OwnN 4096 w2 w.heap.size w.heap.size 4096 (nsP 4096 []) by have h := hown; rw [by8_made, ← PZ.out] at h; exact h); have B3 := Lib.hid ((Below.refl w.heap.size w).grown hgrow (Nat.le_refl _) (by intro k hk; cases hk)); clear hown hgrow)
  clear d1 d2 PZ
  go_upto_region 5 with (fail)
  go_loopw [5] (fun i wr => ∃ k : Nat, k ≤ l.length ∧ i = .int .i64 k ∧ OwnN 4096 wr w.heap.size w.heap.size 4096 (nsP 4096 (l.take k)) ∧ risB 0#32 (l.take k) = true ∧ Below w.heap.size w wr) (fun i _ => l.length - (intOf i).toNat)
  case atStart => exact ⟨0, by omega, rfl, by rw [List.take_zero]; exact O3.out, by rw [List.take_zero]; rfl, B3.out⟩
  case round =>
    obtain ⟨k, hk, rfl, ho, hz, hb⟩ := hrel
    have O6 := Lib.hid ho; have B6 := Lib.hid hb; have Z6 := Lib.hid hz; clear ho hb hz O3 B3
    by_cases hlt : k < l.length
    · obtain ⟨x, hx⟩ : ∃ x, l[k]? = some x := ⟨_, List.getElem?_eq_getElem hlt⟩
      have HX := Lib.hid hx
      obtain ⟨g, o, rfl, c0⟩ := (ROW.out.below B6.out).at (i := k) (v := .int .u32 (uv x)) (wh_get l k x hx)
      have HS := Lib.hid (show Lay.lay (nsP 4096 (l.take k)) (4 * k) (Wire.le (x.setWidth 64) 4) = nsP 4096 (l.take (k + 1)) by
        obtain ⟨h5, rfl⟩ := List.getElem?_eq_some_iff.1 hx
        have h := PM.out (l.take k) l[k]
        rw [List.length_take, Nat.min_eq_left (by omega)] at h
        rw [h, List.take_succ_eq_append_getElem h5])
      have UX := Lib.hid (uw32 x)
      clear hx
      have hk0 : (0 : Int) ≤ (k : Int) := by omega
      have hk1 : (k : Int) ≤ 1024 := by have := H5.out; omega
      go_upto_region 7 with (fail)
      have q0 : ∀ n (y : KeepT nowhere (wr.drewN n)), y.val.cell? ⟨g, o + k, none⟩ = some (.int .u32 (uv x)) := fun n y => y.cell (below_getU (gr_drewN wr n) c0) id
      by_cases hz0 : k = 0
      · have hz := risB_take 0#32 l k x 0#32 HX.out (by rw [if_pos hz0])
        rw [Z6.out, Bool.true_and] at hz
        have HZ := Lib.hid hz
        clear hz
        have d0 : decide ((0 : Int) < k) = false := decide_eq_false (by omega)
        have d0b : decide (0 < k) = false := decide_eq_false (by omega)
        clear hz0
        by_cases hx0 : 0 < uv x
        · have dx : (uv x == 0) = false := beq_eq_false_iff_ne.2 (by omega)
          replace HZ := Lib.hid (HZ.out.trans (decide_eq_true hx0))
          clear hx0
          go_quiet (fail)
          clear q0
          obtain ⟨w5, hw5⟩ : ∃ x, x = wr.drewN nq := ⟨_, rfl⟩
          have O7 := Lib.hid (show OwnN 4096 w5 w.heap.size w.heap.size 4096 (nsP 4096 (l.take (k))) by rw [hw5]; exact O6.out.below (gr_drewN wr _))
          have B7 := Lib.hid (show Below w.heap.size w w5 by rw [hw5]; exact gr_tr B6.out (gr_drewN wr _))
          have c7 : w5.cell? ⟨g, o + (k), none⟩ = some (.int .u32 (uv x)) := by rw [hw5]; exact below_getU (gr_drewN wr _) c0
          rw [← hw5]
          clear c0 hw5
          go_upto_region 6 with (go_at_call 80; go_loud (rw [← UX.out]; refine (rput23 4096 w.heap.size 4096 w.heap.size (nsP 4096 (l.take (k))) (4 * (k)) 4 (x.setWidth 64) w5 O7.out (by decide) (by have := H5.out; omega) (by decide)).mono ?_; rintro r w8 ⟨rfl, ho, hc⟩; rw [HS.out] at ho; have O8 := Lib.hid ho; have B8 := Lib.hid (B7.out.trans (hc.below (fun q hq => by subst hq; exact Nat.le_refl _) B7.out.size)); clear ho hc))
          go_wp2
          go_roundw
          case rel => exact ⟨k + 1, by omega, by go_num, O8.out, HZ.out, B8.out⟩
          case measure => simp [intOf]; omega
        · have dx : (uv x == 0) = true := beq_iff_eq.2 (by have : uv x = (x.toNat : Int) := rfl; omega)
          replace HZ := Lib.hid (HZ.out.trans (decide_eq_false hx0))
          clear hx0
          have ho : nsOkL l = false := by unfold nsOkL; rw [risB_false 0#32 l (k + 1) HZ.out, Bool.and_false]
          have he := HE.out; have hB := HB.out
          rw [ho] at he hB
          simp only [Bool.false_eq_true, if_false] at he hB
          subst he hB
          clear ho
          go_quiet (fail)
          go_wp2
          go_ret2
          exact ⟨_, rfl, BytesV.nil _, gr_tr B6.out (gr_drewN _ _)⟩
      · obtain ⟨j, rfl⟩ : ∃ j, k = j + 1 := ⟨k - 1, by omega⟩
        clear hz0
        obtain ⟨p, hp⟩ : ∃ p, l[j]? = some p := ⟨_, List.getElem?_eq_getElem (by omega)⟩
        obtain ⟨g', o', e1, c1⟩ := (ROW.out.below B6.out).at (i := j) (v := .int .u32 (uv p)) (wh_get l j p hp)
        injection e1 with e1; injection e1 with e1 e2; subst e1; subst e2
        have hz := risB_take 0#32 l (j + 1) x p HX.out (by rw [if_neg (by omega)]; exact hp)
        rw [Z6.out, Bool.true_and] at hz
        have HZ := Lib.hid hz
        clear hp hz
        have q1 : ∀ n (y : KeepT nowhere (wr.drewN n)), y.val.cell? ⟨g, o + j, none⟩ = some (.int .u32 (uv p)) := fun n y => y.cell (below_getU (gr_drewN wr n) c1) id
        have hp0 : (0 : Int) ≤ uv p := Int.natCast_nonneg _
        have hx00 : (0 : Int) ≤ uv x := Int.natCast_nonneg _
        by_cases hq : uv p < uv x
        · have d3 : decide (uv x ≤ uv p) = false := decide_eq_false (by omega)
          have dx : (uv x == 0) = false := beq_eq_false_iff_ne.2 (by omega)
          replace HZ := Lib.hid (HZ.out.trans (decide_eq_true hq))
          clear hq hp0 hx00
          go_quiet (fail)
          clear c1 q0 q1
          obtain ⟨w5, hw5⟩ : ∃ x, x = wr.drewN nq := ⟨_, rfl⟩
          have O7 := Lib.hid (show OwnN 4096 w5 w.heap.size w.heap.size 4096 (nsP 4096 (l.take (j + 1))) by rw [hw5]; exact O6.out.below (gr_drewN wr _))
          have B7 := Lib.hid (show Below w.heap.size w w5 by rw [hw5]; exact gr_tr B6.out (gr_drewN wr _))
          have c7 : w5.cell? ⟨g, o + (j + 1), none⟩ = some (.int .u32 (uv x)) := by rw [hw5]; exact below_getU (gr_drewN wr _) c0
          rw [← hw5]
          clear c0 hw5
          go_upto_region 6 with (go_at_call 80; go_loud (rw [← UX.out]; refine (rput23 4096 w.heap.size 4096 w.heap.size (nsP 4096 (l.take (j + 1))) (4 * (j + 1)) 4 (x.setWidth 64) w5 O7.out (by decide) (by have := H5.out; omega) (by decide)).mono ?_; rintro r w8 ⟨rfl, ho, hc⟩; rw [HS.out] at ho; have O8 := Lib.hid ho; have B8 := Lib.hid (B7.out.trans (hc.below (fun q hq => by subst hq; exact Nat.le_refl _) B7.out.size)); clear ho hc))
          go_wp2
          go_roundw
          case rel => exact ⟨j + 1 + 1, by omega, by go_num, O8.out, HZ.out, B8.out⟩
          case measure => simp [intOf]; omega
        · have d3 : decide (uv x ≤ uv p) = true := decide_eq_true (by omega)
          replace HZ := Lib.hid (HZ.out.trans (decide_eq_false hq))
          clear hq hp0
          by_cases hx0 : uv x = 0
          · have dx : (uv x == 0) = true := beq_iff_eq.2 hx0
            clear hx0 hx00
            have ho : nsOkL l = false := by unfold nsOkL; rw [risB_false 0#32 l (j + 1 + 1) HZ.out, Bool.and_false]
            have he := HE.out; have hB := HB.out
            rw [ho] at he hB
            simp only [Bool.false_eq_true, if_false] at he hB
            subst he hB
            clear ho
            go_quiet (fail)
            go_wp2
            go_ret2
            exact ⟨_, rfl, BytesV.nil _, gr_tr B6.out (gr_drewN _ _)⟩
          · have dx : (uv x == 0) = false := beq_eq_false_iff_ne.2 hx0
            clear hx0 hx00
            have ho : nsOkL l = false := by unfold nsOkL; rw [risB_false 0#32 l (j + 1 + 1) HZ.out, Bool.and_false]
            have he := HE.out; have hB := HB.out
            rw [ho] at he hB
            simp only [Bool.false_eq_true, if_false] at he hB
            subst he hB
            clear ho
            go_quiet (fail)
            go_wp2
            go_ret2
            exact ⟨_, rfl, BytesV.nil _, gr_tr B6.out (gr_drewN _ _)⟩
    · obtain rfl : k = l.length := by omega
      have ho : nsOkL l = true := by have h := Z6.out; rw [List.take_length] at h; unfold nsOkL; rw [decide_eq_true H5.out, h]; rfl
      have he := HE.out; have hB := HB.out
      rw [ho] at he hB
      simp only [if_true] at he hB
      subst he
      have OB := Lib.hid (show OwnN 4096 wr w.heap.size w.heap.size 4096 B by rw [← hB, ← PA.out]; have h := O6.out; rwa [List.take_length] at h)
      clear hB ho
      go_wp2
      go_ret2
      exact ⟨_, rfl, OB.out.bytes, B6.out⟩
set_option maxRecDepth 20000 in
set_option maxHeartbeats 3200000 in
theorem rDecN_at (l : List (BitVec 8)) (bv : Value) (w : World) (y : List (BitVec 32)) (e : Int) (hb : BytesV w bv l) (hl : l.length ≤ 5000) (hd : decP 4096 nsRd nsFine [] l = (y, e)) :
    Calls Tryd.prog 43 #[bv] w fun r w' => ∃ u, r = .returned (.tuple #[u, .int .i64 e]) ∧ SliceV w' (fun y : BitVec 32 => [Value.int .u32 (uv y)]) u y ∧ Below w.heap.size w w' := by
  have BV := Lib.hid hb
  have HL5 := Lib.hid hl
  unfold decP at hd
  by_cases p1 : l.length < 4096
  · rw [if_pos p1] at hd
    cases hd
    have HE := Lib.hid (show chkE l 4096 = 4 by unfold chkE; rw [if_pos p1])
    clear p1 hb
    go_enter Tryd.func43, Tryd.ntmps43
    go_wp2_with (go_at_call 105; go_loud (refine (check23 _ l 4096 4096 4 _ rfl BV.out (HE.out)).mono ?_; rintro r w1 ⟨rfl, rfl⟩))
    go_ret2
    exact ⟨_, rfl, SliceV.nil0 _, Below.refl _ _⟩
  rw [if_neg p1] at hd
  by_cases p2 : 4096 < l.length
  · rw [if_pos p2] at hd
    cases hd
    have HE := Lib.hid (show chkE l 4096 = 5 by unfold chkE; rw [if_neg p1, if_pos p2])
    clear p1 p2 hb
    go_enter Tryd.func43, Tryd.ntmps43
    go_wp2_with (go_at_call 105; go_loud (refine (check23 _ l 4096 4096 5 _ rfl BV.out (HE.out)).mono ?_; rintro r w1 ⟨rfl, rfl⟩))
    go_ret2
    exact ⟨_, rfl, SliceV.nil0 _, Below.refl _ _⟩
  rw [if_neg p2] at hd
  have HL := Lib.hid (show l.length = 4096 by omega)
  have HD := Lib.hid hd
  clear p1 p2 hd
  have NE := Lib.hid (nxt_ne l)
  have NEND := Lib.hid (nxt_end l HL.out)
  have NNX := Lib.hid (nsN_nx l)
  have NLT := Lib.hid (nxt_lt l)
  have NRD := Lib.hid (nsRd_eq l)
  have NLE := Lib.hid (nsL_le l)
  have NF := Lib.hid (nsF l)
  obtain ⟨X, hX⟩ : ∃ X, nxt l = X := ⟨_, rfl⟩
  obtain ⟨n, hn⟩ : ∃ n, nsL l = n := ⟨_, rfl⟩
  rw [hX] at NE NEND NNX NLT
  rw [hn] at NE NEND NRD NLE NF
  have CL := Lib.hid (fun (m : Nat) (hm : m ≤ l.length) => BV.out.cutl (P := Tryd.prog) (T := 22) Tryd.underlying22 bszU m hm)
  obtain ⟨g, o, cv, rfl⟩ := BV.out.shapeAt (by rw [HL.out]; decide)
  have BV4 := Lib.hid (show BytesV w (.slice (some ⟨g, o, none⟩) 4096 cv) l by have := BV.out; rwa [HL.out] at this)
  rw [HL.out] at CL ⊢
  have HDN := Lib.hid (show (if nsFine l = true then (nsN l n, (0 : Int)) else ([], 6)) = (y, e) by rw [← NRD.out]; exact HD.out)
  clear hX hn hb hl BV HD
  go_enter Tryd.func43, Tryd.ntmps43
  go_upto_region 6 with (go_at_call 105; go_loud (refine (check23 _ l 4096 4096 0 _ rfl BV4.out (by unfold chkE; rw [HL.out]; rfl)).mono ?_; rintro r w1 ⟨rfl, rfl⟩))
  go_loopw [5, 6] (fun u i wr => ∃ k : Nat, k ≤ n ∧ i = .int .i64 k ∧ wr.ownsRow w.heap.size 24 1 u k (wh (nsN l k)) ∧ risB 0#32 (nsN l k) = true ∧ Below w.heap.size w wr) (fun _ i _ => n - (intOf i).toNat)
  case atStart => exact ⟨0, by omega, rfl, World.ownsRow_nil _ _ _ _, rfl, Below.refl _ _⟩
  case round =>
    obtain ⟨k, hk, rfl, ho, hz, hbw⟩ := hrel
    have O6 := Lib.hid ho; have B6 := Lib.hid hbw; have Z6 := Lib.hid hz; clear ho hbw hz
    have BB := Lib.hid (BV4.out.below B6.out)
    obtain ⟨au, cu, hu⟩ := own_shape4 O6.out
    subst hu
    have hk0 : (0 : Int) ≤ (k : Int) := by omega
    have hnle := NLE.out
    by_cases hlt : k < n
    · obtain ⟨x, hx⟩ : ∃ x, X k = x := ⟨_, rfl⟩
      have HX := Lib.hid ((NLT.out k (by omega)).symm.trans hx)
      have ZM := Lib.hid (show nsN l (k + 1) = nsN l k ++ [x.setWidth 32] by rw [NNX.out k (by omega), hx])
      have hne := NE.out k hlt
      rw [hx] at hne
      have hpos : decide (0 < uv x) = true := decide_eq_true (uv_pos x hne)
      have hx32 : uv (x.setWidth 32) = uv x := by
        rw [← HX.out, ← uw32, num_back32 l (4 * k) (by rw [HL.out]; omega)]
      have HX32 := Lib.hid hx32
      have hk1 : (k : Int) < 1024 := by omega
      have dk : decide ((k : Int) < 1024) = true := decide_eq_true hk1
      have dkb : decide (k < 1024) = true := decide_eq_true (by omega)
      clear hx hx32 hne
      by_cases hz0 : k = 0
      · have HZ := Lib.hid (show risB 0#32 (nsN l (k + 1)) = true by
          rw [ZM.out, hz0]
          show (decide (uv (0#32) < uv (x.setWidth 32)) && true) = true
          rw [HX32.out, Bool.and_true]; exact hpos)
        have d0 : decide ((0 : Int) < k) = false := decide_eq_false (by omega)
        have d0b : decide (0 < k) = false := decide_eq_false (by omega)
        clear hz0
        go_upto_region 7 with (first
          | (go_at_call 106; go_loud (refine (rget23 _ l (4 * (k)) 4 x wr BB.out HL5.out (by rw [HL.out]; omega) (by decide) (by decide) HX.out).mono ?_; rintro r wz ⟨rfl, rfl⟩))
          | (at_builtin; refine app_w32 rfl (.tmp 40) (.tmp 42) rfl _ w.heap.size (k) (nsN l (k)) rfl O6.out B6.out.size (x.setWidth 32) _ rfl (by omega) ?_; intro v2 w4 ho hg; have O7 := Lib.hid ho; have B7 := Lib.hid ((gr_tr B6.out (gr_alloc wr _)).grown hg (Nat.le_trans B6.out.size (gr_alloc wr _).size) (fun q hq => (O6.out.lt q hq).1)); clear ho hg))
        go_wp2
        go_roundw
        case rel => exact ⟨k + 1, by omega, by go_num, by rw [ZM.out]; exact O7.out, HZ.out, B7.out⟩
        case measure => simp [intOf]; omega
      · obtain ⟨j, rfl⟩ : ∃ j, k = j + 1 := ⟨k - 1, by omega⟩
        clear hz0
        obtain ⟨p, hp⟩ : ∃ p, (nsN l (j + 1))[j]? = some p := ⟨_, nsN_get l (j + 1) j (by omega)⟩
        obtain ⟨ga, ca, hga, -, -, -⟩ := own_addr4 O6.out (by omega)
        injection hga with hga1 hga2 hga3
        subst hga1; subst hga3
        have c1 : wr.cell? ⟨ga, j, none⟩ = some (.int .u32 (uv p)) := by
          rw [World.ownsRow.cellAt O6.out j (by omega)]
          exact wh_get _ j p hp
        have e1 := risB_take 0#32 (nsN l (j + 2)) (j + 1) (x.setWidth 32) p (by rw [ZM.out, List.getElem?_append_right (by rw [nsN_len]; omega), nsN_len, Nat.sub_self]; rfl) (by rw [if_neg (by omega), Nat.add_sub_cancel, nsN_get l (j + 2) j (by omega), ← hp, nsN_get l (j + 1) j (by omega)])
        rw [nsN_take l _ _ (Nat.le_refl _), nsN_take l _ _ (by omega), Z6.out, Bool.true_and] at e1
        have HZ := Lib.hid e1
        clear e1 hp
        by_cases hq : uv p < uv (x.setWidth 32)
        · have d3 : decide (uv (x.setWidth 32) ≤ uv p) = false := decide_eq_false (by omega)
          replace HZ := Lib.hid (HZ.out.trans (decide_eq_true hq))
          clear hq
          go_upto_region 7 with (first
            | (go_at_call 106; go_loud (refine (rget23 _ l (4 * (j + 1)) 4 x wr BB.out HL5.out (by rw [HL.out]; omega) (by decide) (by decide) HX.out).mono ?_; rintro r wz ⟨rfl, rfl⟩))
            | (at_builtin; refine app_w32 rfl (.tmp 40) (.tmp 42) rfl _ w.heap.size (j + 1) (nsN l (j + 1)) rfl O6.out B6.out.size (x.setWidth 32) _ rfl (by omega) ?_; intro v2 w4 ho hg; have O7 := Lib.hid ho; have B7 := Lib.hid ((gr_tr B6.out (gr_alloc wr _)).grown hg (Nat.le_trans B6.out.size (gr_alloc wr _).size) (fun q hq => (O6.out.lt q hq).1)); clear ho hg))
          go_wp2
          go_roundw
          case rel => exact ⟨j + 1 + 1, by omega, by go_num, by rw [ZM.out]; exact O7.out, HZ.out, B7.out⟩
          case measure => simp [intOf]; omega
        · have d3 : decide (uv (x.setWidth 32) ≤ uv p) = true := decide_eq_true (by omega)
          replace HZ := Lib.hid (HZ.out.trans (decide_eq_false hq))
          clear hq
          have hf : nsFine l = false := by
            rw [NF.out, risB_false 0#32 (nsN l n) (j + 1 + 1) (by rw [nsN_take l n (j + 1 + 1) (by omega)]; exact HZ.out), Bool.false_and]
          have hd := HDN.out
          rw [hf] at hd
          simp only [Bool.false_eq_true, if_false] at hd
          cases hd
          clear hf
          go_wp2_with (go_at_call 106; go_loud (refine (rget23 _ l (4 * (j + 1)) 4 x wr BB.out HL5.out (by rw [HL.out]; omega) (by decide) (by decide) HX.out).mono ?_; rintro r wz ⟨rfl, rfl⟩))
          go_ret2
          exact ⟨_, rfl, SliceV.nil0 _, B6.out⟩
    · obtain rfl : k = n := by omega
      obtain ⟨s9, hu9, hr9⟩ := CL.out (4 * k) (by omega)
      rw [show ((4 * k : Nat) : Int) = 4 * (k : Int) by omega] at hr9
      have U9 := Lib.hid hu9
      obtain ⟨z2, hz2⟩ : ∃ z, allZ (l.drop (4 * k)) = z := ⟨_, rfl⟩
      have Z2 := Lib.hid hz2
      have hd := HDN.out
      rw [NF.out, Z6.out, hz2, Bool.true_and] at hd
      have HD9 := Lib.hid hd
      have SV := Lib.hid (show SliceV wr (fun y : BitVec 32 => [Value.int .u32 (uv y)]) (.slice au k cu) (nsN l k) from SliceV.of_w32 (by rw [nsN_len]; exact O6.out))
      clear hu9 hz2 hd
      by_cases hend : k < 1024
      · have hx0 : num l (4 * k) 4 = 0#64 := (NLT.out k hend).symm.trans NEND.out
        have HX := Lib.hid hx0
        have hk1 : (k : Int) < 1024 := by omega
        have dk : decide ((k : Int) < 1024) = true := decide_eq_true hk1
        have dkb : decide (k < 1024) = true := decide_eq_true (by omega)
        clear hx0 hend
        cases z2
        · have hd := HD9.out
          simp only [Bool.false_eq_true, if_false] at hd
          cases hd
          go_wp2_with (first
            | (go_at_call 106; go_loud (refine (rget23 _ l (4 * (k)) 4 0#64 wr BB.out HL5.out (by rw [HL.out]; omega) (by decide) (by decide) HX.out).mono ?_; rintro r wz ⟨rfl, rfl⟩))
            | (go_at_call 107; go_loud ((with_reducible refine (rZeros_at s9 (l.drop (4 * k)) false _ (U9.out.below B6.out) Z2.out).mono ?_); rintro r wz ⟨rfl, rfl⟩)))
          go_ret2
          exact ⟨_, rfl, SliceV.nil0 _, B6.out⟩
        · have hd := HD9.out
          simp only [if_true] at hd
          cases hd
          go_wp2_with (first
            | (go_at_call 106; go_loud (refine (rget23 _ l (4 * (k)) 4 0#64 wr BB.out HL5.out (by rw [HL.out]; omega) (by decide) (by decide) HX.out).mono ?_; rintro r wz ⟨rfl, rfl⟩))
            | (go_at_call 107; go_loud ((with_reducible refine (rZeros_at s9 (l.drop (4 * k)) true _ (U9.out.below B6.out) Z2.out).mono ?_); rintro r wz ⟨rfl, rfl⟩)))
          go_ret2
          exact ⟨_, rfl, SV.out, B6.out⟩
      · have dk : decide ((k : Int) < 1024) = false := decide_eq_false (by omega)
        have dkb : decide (k < 1024) = false := decide_eq_false (by omega)
        have hk1 : (k : Int) ≤ 1024 := by omega
        clear hend
        cases z2
        · have hd := HD9.out
          simp only [Bool.false_eq_true, if_false] at hd
          cases hd
          go_wp2_with (first
            | (go_at_call 107; go_loud ((with_reducible refine (rZeros_at s9 (l.drop (4 * k)) false _ (U9.out.below B6.out) Z2.out).mono ?_); rintro r wz ⟨rfl, rfl⟩)))
          go_ret2
          exact ⟨_, rfl, SliceV.nil0 _, B6.out⟩
        · have hd := HD9.out
          simp only [if_true] at hd
          cases hd
          go_wp2_with (first
            | (go_at_call 107; go_loud ((with_reducible refine (rZeros_at s9 (l.drop (4 * k)) true _ (U9.out.below B6.out) Z2.out).mono ?_); rintro r wz ⟨rfl, rfl⟩)))
          go_ret2
          exact ⟨_, rfl, SV.out, B6.out⟩
end Go.Proofs.YthnnopjakpjoeaaDoor
namespace Go.Proofs.YthnnopjakpjoeaaDoor
open Go.RowKit Go.ChangeShapes Go.WideShapes Go.ChangeAt
set_option linter.unusedVariables false
set_option linter.unusedSimpArgs false
theorem own_shapeR {w : World} {base : Nat} {e : TypeId} {size : Nat} {v : Value} {n : Nat} {xs : List Value} (h : w.ownsRow base e size v n xs) : ∃ a c, v = .slice a n c := by
  obtain ⟨h1, h2⟩ := h
  rcases h2 with ⟨rfl, rfl⟩ | ⟨g, cap, cur, hv, _⟩
  · exact ⟨_, _, rfl⟩
  · exact ⟨_, _, hv⟩
theorem own_addrR {w : World} {base n : Nat} {e : TypeId} {v : Value} {xs : List Value} (h : w.ownsRow base e 1 v n xs) (hn : 0 < n) : ∃ g c, v = .slice (some ⟨g, 0, none⟩) n c ∧ base ≤ g ∧ n ≤ c ∧ c ≤ 9223372036854775807 := by
  obtain ⟨h1, h2⟩ := h
  rcases h2 with ⟨_, h0⟩ | ⟨g, cap, cur, rfl, hg, _, r1, r2, _⟩
  · omega
  · exact ⟨g, cap, rfl, hg, r1, r2⟩
theorem infoZ : ∃ i, Tryd.prog.info? 5 = some i ∧ i.zero = some (.int .u8 0) ∧ i.size = 1 ∧ i.bytes = 1 := info_parts (by kernel_rfl)
theorem zeros_list (n : Nat) : (Builtin.zeroCells (Value.int .u8 0).cells n).toList = by8 (List.replicate n 0#8) := by8_made n
theorem zeros_arr (n : Nat) : Builtin.zeroCells (Value.int .u8 0).cells n = (by8 (List.replicate n 0#8)).toArray := by
  apply Array.ext'; rw [zeros_list]
theorem run_room_zeros (w : World) (ty : TypeId) (g n cap : Nat) (cur : Array Value) (hg : w.heap[g]? = some (.cells cur 5 (0, 0))) (k : Nat) (h0 : 0 < k) (h48 : k ≤ 140737488355328) (hroom : n + k ≤ cap) (hfit : n + k ≤ cur.size) :
    (Builtin.append_ #[22, 3] ty #[.slice (some ⟨g, 0, none⟩) n cap, .int .i64 k]).run Tryd.prog w =
      .ok (.slice (some ⟨g, 0, none⟩) (n + k) cap) (w.setRow g (cur.toList.take n ++ by8 (List.replicate k 0#8) ++ cur.toList.drop (n + k)).toArray) := by
  obtain ⟨i, hi, hz, hs, hb⟩ := infoZ
  have hl : (by8 (List.replicate k 0#8)).length = k := by simp
  have hst := run_storeCells_at Tryd.prog g n 5 (by8 (List.replicate k 0#8)) 0 cur w hg (by rw [hl]; simpa using hfit) (by8_one _)
  simp only [Nat.add_zero, hl] at hst
  have hn : k ≠ 0 := by omega
  have hw : IntKind.i64.wrap (k : Int) = k := by rw [IntKind.wrap_i64]; omega
  have h48i : ¬ (281474976710656 < (k : Int) * (i.bytes : Int)) := by rw [hb]; omega
  have hneg : ¬ ((k : Int) < 0) := by omega
  have hzl := zeros_list k
  simp only [Value.cells] at hzl
  have hza := zeros_arr k
  simp only [Value.cells] at hza
  simp [Builtin.append_, run_underlying Tryd.underlying22, run_underlying Tryd.underlying3, sizeOf, typeInfo, zeroValue, hi, hz, hs, asInt, asIntOf, hw, hn, hneg, hroom, h48i, Addr.add_lit, Value.cells, hzl, hst]
theorem run_own_zeros (w : World) (ty : TypeId) (base : Nat) (v : Value) (l : List (BitVec 8)) (hown : w.ownsRow base 5 1 v l.length (by8 l)) (hbase : base ≤ w.heap.size) (k : Nat) (h0 : 0 < k) (h48 : l.length + k ≤ 140737488355328) :
    ∃ v' w', (Builtin.append_ #[22, 3] ty #[v, .int .i64 k]).run Tryd.prog w = .ok v' w' ∧ w'.ownsRow base 5 1 v' (l ++ List.replicate k 0#8).length (by8 (l ++ List.replicate k 0#8)) ∧ w.grownBy w' v.ownBlock := by
  have hn : (l ++ List.replicate k 0#8).length = l.length + k := by simp
  rw [hn, by8_append]
  have hlen : (by8 l ++ by8 (List.replicate k 0#8)).length = (l.length + k) * 1 := by simp
  rcases hown.2 with ⟨rfl, h⟩ | ⟨g, cap, cur, rfl, hbg, hg, hnc, hcm, hcs, htake⟩
  · have hl0 : l = [] := List.length_eq_zero_iff.1 h
    subst hl0
    obtain ⟨i, hi, hz, hs, hb⟩ := infoZ
    have hr := Lib.run_append_nil_zeros (P := Tryd.prog) w 22 3 ty 5 i (.int .u8 0) .i64 .i64 Tryd.underlying22 Tryd.underlying3 hi hz k h0 (by omega) (by simp at h48; omega) (by rw [hb]; simp at h48; omega)
    have hge := grownCap_ge w k 0 5
    have hle := grownCap_le_maxLen w k 0 5 (by unfold maxLen; simp at h48; omega)
    have e0 : ([] : List (BitVec 8)).length + k = k := by simp
    rw [e0]
    refine ⟨_, _, hr, ⟨by simp, .inr ⟨w.heap.size, _, _, rfl, hbase, heap_alloc_new w.drew _, hge, hle, ?_, ?_⟩⟩, ⟨rfl, rfl, rfl, by simp, fun j hj _ => heap_alloc_old w.drew _ hj⟩⟩
    · simp only [Array.size_append, size_zeroCells, Value.cells]
      simp
      omega
    · simp only [Array.toList_append, zeros_list]
      rw [show k * 1 = (by8 (List.replicate k 0#8)).length by simp]
      exact List.take_left
  · simp only [Nat.mul_one, by8_length] at hcs htake
    by_cases hroom : l.length + k ≤ cap
    · have hr := run_room_zeros w ty g l.length cap cur hg k h0 (by omega) hroom (by omega)
      refine ⟨_, _, hr, ⟨hlen, .inr ⟨g, cap, _, rfl, hbg, setRow_heap w g cur _ _ _ hg, hroom, hcm, ?_, ?_⟩⟩, ⟨rfl, rfl, rfl, by simp, fun j _ hj => setRow_other w g j _ (fun e => hj (by simp [Value.ownBlock, e]))⟩⟩
      · simp only [List.size_toArray, List.length_append, List.length_take, List.length_drop, Array.length_toList, by8_length, List.length_replicate]
        omega
      · simp only [htake]
        rw [← hlen]
        exact List.take_left
    · obtain ⟨i, hi, hz, hs, hb⟩ := infoZ
      have holds : ∀ j u, (by8 l)[j]? = some u → w.drew.cell? ((⟨g, 0, none⟩ : Addr).add j) = some u := by
        have := hown.cells (g := g) rfl
        simpa using this
      have hold := run_firstCells_some (P := Tryd.prog) w.drew 1 l.length ⟨g, 0, none⟩ l.length cap (by8 l) (by simp) holds
      have hr := Lib.run_append_grow_zeros (P := Tryd.prog) w 22 3 ty 5 i (.int .u8 0) .i64 .i64 Tryd.underlying22 Tryd.underlying3 hi hz (some ⟨g, 0, none⟩) l.length cap (by8 l) (by rw [hs]; exact hold) k h0 (by omega) (by omega) (by omega) (by rw [hb]; omega) (growslice_fits (by omega) (by rw [hb]; omega))
      have hge := grownCap_ge w (l.length + k) cap 5
      have hle := grownCap_le_maxLen w (l.length + k) cap 5 (by unfold maxLen; omega)
      refine ⟨_, _, hr, ⟨hlen, .inr ⟨w.heap.size, _, _, rfl, hbase, heap_alloc_new w.drew _, hge, hle, ?_, ?_⟩⟩, ⟨rfl, rfl, rfl, by simp, fun j hj _ => heap_alloc_old w.drew _ hj⟩⟩
      · simp only [Array.size_append, List.size_toArray, size_zeroCells, by8_length, Value.cells]
        simp
        omega
      · simp only [Array.toList_append, zeros_list]
        rw [← hlen]
        exact List.take_left
/-- 'append(own, make([]byte, k)...)'. -/
theorem app_zeros {ops : Array Oper} {rest : List Oper} {o : Oper} {a : Act} {Q : Exit → Act → World → Prop} {W : World} (hgd : o.guard = none) (s x : Operand) (ho : o.op = .call { callee := .builtin .append, args := #[s, x], argTypes := #[22, 3] })
    (u : Value) (base : Nat) (l : List (BitVec 8)) (hs : a.eval s = u) (hown : W.ownsRow base 5 1 u l.length (by8 l)) (hbase : base ≤ W.heap.size)
    (k : Nat) (hx : a.eval x = .int .i64 k) (h0 : 0 < k) (h48 : l.length + k ≤ 140737488355328)
    (h : ∀ v' w', w'.ownsRow base 5 1 v' (l ++ List.replicate k 0#8).length (by8 (l ++ List.replicate k 0#8)) → Below base W w' → wpList Tryd.prog ops Q rest (a.put o.dst v') w') : wpList Tryd.prog ops Q (o :: rest) a W := by
  obtain ⟨v', w', hr, h1, h2⟩ := run_own_zeros W o.type base u l hown hbase k h0 h48
  refine wpList_plain hgd fun K hK => ?_
  exact Lib.wp_append_run W s x _ _ ho _ _ hs hx v' w' hr (hK _ _ (h v' w' h1 ((Below.refl base W).grown h2 hbase (fun j hj => (hown.lt j hj).1))))

theorem run_own_zeros0 (w : World) (ty : TypeId) (a : Option Addr) (n c : Nat) (hn : n ≤ c) :
    (Builtin.append_ #[22, 3] ty #[.slice a n c, .int .i64 0]).run Tryd.prog w = .ok (.slice a n c) w := by
  obtain ⟨i, hi, hz, hs, hb⟩ := infoZ
  have hw : IntKind.i64.wrap (0 : Int) = 0 := by rw [IntKind.wrap_i64]; rfl
  cases a <;> simp [Builtin.append_, run_underlying Tryd.underlying22, run_underlying Tryd.underlying3, sizeOf, typeInfo, zeroValue, hi, hz, hs, asInt, asIntOf, hw, hn, storeCells, hb]
theorem app_zeros0 {ops : Array Oper} {rest : List Oper} {o : Oper} {a : Act} {Q : Exit → Act → World → Prop} {W : World} (hgd : o.guard = none) (s x : Operand) (ho : o.op = .call { callee := .builtin .append, args := #[s, x], argTypes := #[22, 3] })
    (ad : Option Addr) (n c : Nat) (hs : a.eval s = .slice ad n c) (hn : n ≤ c) (hx : a.eval x = .int .i64 0)
    (h : wpList Tryd.prog ops Q rest (a.put o.dst (.slice ad n c)) W) : wpList Tryd.prog ops Q (o :: rest) a W := by
  refine wpList_plain hgd fun K hK => ?_
  exact Lib.wp_append_run W s x _ _ ho _ _ hs hx _ _ (run_own_zeros0 W o.type ad n c hn) (hK _ _ h)
theorem BytesV.takeN {w : World} {a : Option Addr} {n c : Nat} {l : List (BitVec 8)} (h : BytesV w (.slice a n c) l) (k : Nat) (hk : k ≤ l.length) : BytesV w (.slice a k c) (l.take k) := by
  obtain ⟨a', c', e, h0, h1, h2, h3⟩ := h
  injection e with e1 e2 e3
  subst e1 e3
  have hl : (l.take k).length = k := by rw [List.length_take]; omega
  refine ⟨a, c, by rw [hl], fun ha => h0 ha, by rw [hl]; omega, h2, ?_⟩
  have := h3.take k
  unfold by8 at this ⊢
  rw [List.map_take]; exact this
theorem spoil_cut (n : Nat) (more : Int) (hn : n ≤ 1000000) (hm : -9223372036854775808 ≤ more ∧ more ≤ 9223372036854775807) (h : more < 0) :
    ∃ q : Nat, max 0 (wrap64 ((n : Int) - min (wrap64 (-more)) 10)) = (q : Int) ∧ q ≤ n := by
  have e1 : wrap64 (-more) = if more = -9223372036854775808 then -9223372036854775808 else -more := by
    split
    · rename_i e; subst e; unfold wrap64; omega
    · exact IntWalk.wrap64_in _ (by omega)
  rw [e1]
  split
  · have e2 : wrap64 ((n : Int) - min (-9223372036854775808) 10) = (n : Int) - 9223372036854775808 := by
      have : (n : Int) - min (-9223372036854775808) 10 = n + 9223372036854775808 := by omega
      rw [this]; unfold wrap64; omega
    exact ⟨0, by rw [e2]; omega, by omega⟩
  · rw [IntWalk.wrap64_in _ (by omega)]
    exact ⟨(max 0 ((n : Int) - min (-more) 10)).toNat, by omega, by omega⟩
set_option maxHeartbeats 1600000 in
set_option maxRecDepth 20000 in
theorem spoil_any (v : Value) (l : List (BitVec 8)) (at' more : Int) (by' : BitVec 8) (w : World) (hv : BytesV w v l) (hl : l.length ≤ 1000000) (ha : -9223372036854775808 ≤ at' ∧ at' ≤ 9223372036854775807) (hm : -9223372036854775808 ≤ more ∧ more ≤ 9223372036854775807) :
    Calls Tryd.prog 41 #[v, .agg #[.int .i64 at', .int .u8 (uv by'), .int .i64 more]] w fun e w' => ∃ u m, e = .returned u ∧ BytesV w' u m ∧ m.length ≤ l.length + 10 ∧ Below w.heap.size w w' := by
  have V := Lib.hid hv
  clear hv
  go_enter Tryd.func41, Tryd.ntmps41
  go_upto_region 2 with (go_at_call 18; go_loud (refine (Own_any v l _ (V.out.below (gr_alloc w _)) (by omega)).mono ?_; rintro r w1 ⟨u, rfl, ho, hb⟩; obtain ⟨ad, c, rfl⟩ := own_shapeR ho; have O := Lib.hid ho; have B := Lib.hid hb; clear ho hb))
  have c0 : w1.cell? ⟨w.heap.size, 0, none⟩ = some (.int .i64 at') := (B.out.cell (p := ⟨w.heap.size, 0, none⟩) (by simp)).trans (cell_of_row _ _ 0 _ _ _ (heap_alloc_new w _))
  have c1 : w1.cell? ⟨w.heap.size, 1, none⟩ = some (.int .u8 (uv by')) := (B.out.cell (p := ⟨w.heap.size, 1, none⟩) (by simp)).trans (cell_of_row _ _ 1 _ _ _ (heap_alloc_new w _))
  have c2 : w1.cell? ⟨w.heap.size, 2, none⟩ = some (.int .i64 more) := (B.out.cell (p := ⟨w.heap.size, 2, none⟩) (by simp)).trans (cell_of_row _ _ 2 _ _ _ (heap_alloc_new w _))
  go_cut [17] (fun s wx => ∃ b : Bool, s = .bool b ∧ (b = true → 0 ≤ at' ∧ at' < l.length) ∧ wx = w1)
  case first =>
    by_cases h1 : 0 ≤ at'
    · by_cases h2 : at' < l.length
      · go_wp2
        go_meet
        exact ⟨true, rfl, fun _ => ⟨h1, h2⟩, rfl⟩
      · go_wp2
        go_meet
        exact ⟨false, rfl, fun h => (by cases h), rfl⟩
    · go_wp2
      go_meet
      exact ⟨false, rfl, fun h => (by cases h), rfl⟩
  case rest =>
    obtain ⟨b, rfl, hin, rfl⟩ := hcut
    obtain ⟨w2, hx2⟩ : ∃ x, x = wc := ⟨_, rfl⟩
    subst hx2
    have HIN := Lib.hid hin; clear hin
    go_upto_if 17 with (fail)
    go_cut [17] (fun s wx => ∃ m : List (BitVec 8), m.length = l.length ∧ wx.ownsRow (w.alloc (.cells #[.int .i64 at', .int .u8 (uv by'), .int .i64 more] 90)).heap.size 5 1 (.slice ad l.length c) l.length (by8 m) ∧ Below (w.alloc (.cells #[.int .i64 at', .int .u8 (uv by'), .int .i64 more] 90)).heap.size (w.alloc (.cells #[.int .i64 at', .int .u8 (uv by'), .int .i64 more] 90)) wx)
    case first =>
      cases b
      · go_wp2
        go_meet
        exact ⟨l, rfl, O.out, B.out⟩
      · obtain ⟨p1, p2⟩ := HIN.out rfl
        obtain ⟨g, c', e0, hg1, hg2, hg3⟩ := own_addrR O.out (by omega)
        injection e0 with e1 e2 e3
        subst e1 e3
        obtain ⟨k, rfl⟩ := Int.eq_ofNat_of_zero_le p1
        have hk : k < l.length := by omega
        have gx : w2.cell? ⟨g, k, none⟩ = some (.int .u8 (uv l[k])) := by
          rw [World.ownsRow.cellAt O.out k (by omega), by8_get, List.getElem?_eq_getElem hk]; rfl
        have fx := World.ownsRow.frozenAt O.out k
        go_wp2
        go_meet
        refine ⟨l.set k by', by rw [List.length_set], ?_, ?_⟩
        · rw [← by8_setL]
          have := (World.ownsRow.stored O.out k (.int .u8 (uv by'))).1
          exact this
        · exact (Chg.setCell (B := fun b => b = g) (p := ⟨g, k, none⟩) _ rfl _).fresh B.out (fun k hk => by subst hk; exact hg1)
    case rest =>
      obtain ⟨m, hm2, ho2, hb2⟩ := hcut
      obtain ⟨w3, hx3⟩ : ∃ x, x = wc := ⟨_, rfl⟩
      subst hx3
      have O2 := Lib.hid ho2; have B2 := Lib.hid hb2; have HM2 := Lib.hid hm2
      clear ho2 hb2 hm2 O B
      have c2' : w3.cell? ⟨w.heap.size, 2, none⟩ = some (.int .i64 more) := (B2.out.cell (p := ⟨w.heap.size, 2, none⟩) (by simp)).trans (cell_of_row _ _ 2 _ _ _ (heap_alloc_new w _))
      have B3 := Lib.hid (gr_tr (gr_alloc w _) B2.out)
      have V2 := Lib.hid (BytesV.of_own (l := m) (by rw [HM2.out]; exact O2.out))
      clear c0 c1 c2
      by_cases h1 : more < 0
      · obtain ⟨q, hq, hql⟩ := spoil_cut l.length more (by omega) hm h1
        have hcm : m.length ≤ c := by obtain ⟨_, _, e, _, h, _⟩ := V2.out; injection e with _ _ e; rw [e]; exact h
        have hqc : q ≤ c := by have := HM2.out; omega
        have TK := Lib.hid (V2.out.takeN q (by rw [HM2.out]; exact hql))
        clear hcm
        go_wp2
        go_ret
        exact ⟨_, _, rfl, TK.out, by rw [List.length_take]; have := HM2.out; omega, B3.out⟩
      · by_cases h2 : more = 0
        · subst h2
          go_wp2_with (at_builtin; refine app_zeros0 rfl (.tmp 37) (.tmp 40) rfl ad l.length c rfl (by obtain ⟨_, _, e, _, h, _⟩ := V2.out; injection e with _ _ e; rw [← HM2.out, e]; exact h) rfl ?_)
          go_ret
          exact ⟨_, rfl, m, by have := V2.out; exact this, by have := HM2.out; omega, B3.out⟩
        · obtain ⟨q, hq⟩ : ∃ q : Nat, (q : Int) = min more 10 := ⟨(min more 10).toNat, by omega⟩
          go_wp2_with (at_builtin; refine app_zeros rfl (.tmp 37) (.tmp 40) rfl _ _ m rfl (by rw [HM2.out]; exact O2.out) B2.out.size q (by rw [hq]; rfl) (by omega) (by have := HM2.out; omega) ?_; intro v1 w5 ho hb; have O1 := Lib.hid ho; have B5 := Lib.hid hb; clear ho hb)
          go_ret
          exact ⟨_, rfl, _, BytesV.of_own O1.out, by rw [List.length_append, List.length_replicate]; have := HM2.out; omega, (gr_alloc w _).trans ((B2.out.trans B5.out).mono (gr_alloc w _).size)⟩
end Go.Proofs.YthnnopjakpjoeaaDoor
