/- Merged: LogU, LogV, LogW, Spoil3. -/
import Derived.Test.YthnnopjakpjoeaaDoorLogB
import Derived.Test.YthnnopjakpjoeaaDoorLogR
import Derived.Test.YthnnopjakpjoeaaDoorLogN
import Derived.Deep.QuietTactic
import Derived.Test.YthnnopjakpjoeaaDoorApp
import Derived.Test.YthnnopjakpjoeaaDoorRef01
import Derived.Test.YthnnopjakpjoeaaDoorOpenG
import Derived.Test.YthnnopjakpjoeaaDoorChg
import Derived.Deep.DeepCutAuto
import Derived.Lib.AppendZeros
import Derived.Lib.AppendZerosOnto
namespace Go.Proofs.YthnnopjakpjoeaaDoor
open Go.RowKit Lg
set_option linter.unusedVariables false
set_option linter.unusedSimpArgs false
theorem below_getU {w w' : World} {b o : Nat} {v : Value} (h : Below w.heap.size w w') (hc : w.cell? ⟨b, o, none⟩ = some v) : w'.cell? ⟨b, o, none⟩ = some v := (Chg.of_below (B := fun _ => False) h).cell hc id
theorem SliceV.nil0 {α : Type} {f : α → List Value} (w : World) : SliceV w f (.slice none 0 0) [] := ⟨none, 0, rfl, fun _ => rfl, by simp, by simp, .inl rfl⟩
theorem SliceV.of_wd {w : World} {base : Nat} {e : TypeId} {v : Value} {l : List (BitVec 64)} (h : w.ownsRow base e 1 v l.length (wd l)) : SliceV w (fun y : BitVec 64 => [Value.int .u64 (uv y)]) v l := by
  obtain ⟨h1, h2⟩ := h
  rcases h2 with ⟨e1, e2⟩ | ⟨g, cap, cur, hv, hg, hh, r1, r2, r3, r4⟩
  · have : l = [] := List.length_eq_zero_iff.1 e2
    subst this; subst e1; exact SliceV.nil0 w
  · subst hv
    exact ⟨_, cap, rfl, (by simp), r1, r2, by rw [flat1]; exact Row.of_own ⟨h1, .inr ⟨g, cap, cur, rfl, hg, hh, r1, r2, r3, r4⟩⟩⟩
theorem SliceV.of_w32 {w : World} {base : Nat} {e : TypeId} {v : Value} {l : List (BitVec 32)} (h : w.ownsRow base e 1 v l.length (l.map fun y => Value.int .u32 (uv y))) : SliceV w (fun y : BitVec 32 => [Value.int .u32 (uv y)]) v l := by
  obtain ⟨h1, h2⟩ := h
  rcases h2 with ⟨e1, e2⟩ | ⟨g, cap, cur, hv, hg, hh, r1, r2, r3, r4⟩
  · have : l = [] := List.length_eq_zero_iff.1 e2
    subst this; subst e1; exact SliceV.nil0 w
  · subst hv
    exact ⟨_, cap, rfl, (by simp), r1, r2, by rw [flat1]; exact Row.of_own ⟨h1, .inr ⟨g, cap, cur, rfl, hg, hh, r1, r2, r3, r4⟩⟩⟩
namespace Lg
theorem risB_snoc {n : Nat} (a : BitVec n) (l : List (BitVec n)) (x : BitVec n) : risB a (l ++ [x]) = (risB a l && decide (uv (l.getLastD a) < uv x)) := by
  induction l generalizing a with
  | nil => rw [List.nil_append]; unfold risB risB; rw [Bool.and_true, Bool.true_and]; rfl
  | cons y l ih =>
    have e : ∀ m : List (BitVec n), risB a (y :: m) = (decide (uv a < uv y) && risB y m) := fun m => rfl
    rw [List.cons_append, e, e, ih, Bool.and_assoc, List.getLastD_cons]
theorem risB_take {n : Nat} (a : BitVec n) (l : List (BitVec n)) (k : Nat) (x p : BitVec n) (hx : l[k]? = some x) (hp : (if k = 0 then some a else l[k - 1]?) = some p) : risB a (l.take (k + 1)) = (risB a (l.take k) && decide (uv p < uv x)) := by
  obtain ⟨hk, rfl⟩ := List.getElem?_eq_some_iff.1 hx
  rw [List.take_succ_eq_append_getElem hk, risB_snoc]
  have e : (l.take k).getLastD a = p := by
    cases k with
    | zero => rw [if_pos rfl] at hp; injection hp
    | succ k =>
      rw [if_neg (by omega), Nat.add_sub_cancel] at hp
      rw [List.getLastD_eq_getLast?, List.getLast?_eq_getElem?, List.length_take, Nat.min_eq_left (by omega), Nat.add_sub_cancel, List.getElem?_take_of_lt (by omega), hp]
      rfl
  rw [e]
theorem risB_false {n : Nat} (a : BitVec n) (l : List (BitVec n)) (k : Nat) (h : risB a (l.take k) = false) : risB a l = false := by
  induction l generalizing a k with
  | nil => rw [List.take_nil] at h; exact h
  | cons y l ih =>
    cases k with
    | zero => exact absurd h (by unfold risB; simp)
    | succ k =>
      rw [List.take_succ_cons] at h
      unfold risB at h ⊢
      cases hd : decide (uv a < uv y)
      · rfl
      · rw [hd, Bool.true_and] at h
        rw [Bool.true_and]; exact ih y k h
theorem zoRis_one (l : List (BitVec 64)) : zoRis (l.take 0) = true ∧ zoRis (l.take 1) = true := by
  cases l <;> exact ⟨rfl, rfl⟩
theorem zoRis_take (l : List (BitVec 64)) (k : Nat) (x p : BitVec 64) (hx : l[k + 1]? = some x) (hp : l[k]? = some p) : zoRis (l.take (k + 2)) = (zoRis (l.take (k + 1)) && decide (uv p < uv x)) := by
  cases l with
  | nil => exact absurd hx (by simp)
  | cons y l =>
    rw [List.getElem?_cons_succ] at hx
    show risB y (l.take (k + 1)) = (risB y (l.take k) && _)
    refine risB_take y l k x p hx ?_
    cases k with
    | zero => rw [if_pos rfl]; exact hp
    | succ k => rw [if_neg (by omega)]; exact hp
theorem zoRis_false (l : List (BitVec 64)) (k : Nat) (h : zoRis (l.take k) = false) : zoRis l = false := by
  cases l with
  | nil => rw [List.take_nil] at h; exact h
  | cons y l =>
    cases k with
    | zero => exact absurd h (by rw [List.take_zero]; unfold zoRis; simp)
    | succ k => exact risB_false y l k h
theorem get_consN (x : BitVec 8) (r : List (BitVec 8)) (h : r.length ≤ 7) : (Wire.get (x :: r)).toNat = x.toNat + 256 * (Wire.get r).toNat := by
  have hr : (Wire.get r).toNat < 2 ^ 56 := by
    have h1 := congrArg BitVec.toNat (Wire.get_high r (by omega))
    rw [BitVec.toNat_ushiftRight, Nat.shiftRight_eq_div_pow] at h1
    have h2 : (Wire.get r).toNat < 2 ^ (8 * r.length) := by
      rcases Nat.lt_or_ge (Wire.get r).toNat (2 ^ (8 * r.length)) with h3 | h3
      · exact h3
      · have := Nat.div_pos h3 (Nat.two_pow_pos _)
        simp at h1; omega
    exact Nat.lt_of_lt_of_le h2 (Nat.pow_le_pow_right (by decide) (by omega))
  rw [Wire.get_cons, BitVec.toNat_or, BitVec.toNat_shiftLeft, BitVec.toNat_setWidth, Nat.shiftLeft_eq, Nat.mod_eq_of_lt (by omega : (Wire.get r).toNat * 2 ^ 8 < 2 ^ 64), Nat.mod_eq_of_lt (by have := x.isLt; omega : x.toNat < 2 ^ 64), Nat.mul_comm, ← Nat.two_pow_add_eq_or_of_lt x.isLt]
  omega
theorem num_zero (l : List (BitVec 8)) (a n : Nat) (h : a + n ≤ l.length) (h8 : n ≤ 8) : (num l a n).toNat = 0 ↔ allZ (cut l a n) = true := by
  have hl := num_le l a n h h8
  have z : Wire.le 0#64 n = List.replicate n 0#8 := by
    apply List.ext_getElem?
    intro i
    by_cases hi : i < n
    · rw [Wire.le_get _ _ _ hi, List.getElem?_replicate, if_pos hi]; congr 1; simp
    · rw [List.getElem?_eq_none (by rw [Wire.le_len]; omega), List.getElem?_eq_none (by simp; omega)]
  rw [allZ_iff, cut_len h]
  constructor
  · intro h0
    have : num l a n = 0#64 := BitVec.eq_of_toNat_eq h0
    rw [← hl, this, z]
  · intro h0
    unfold num
    rw [h0, ← z, Wire.get_le 0#64 n h8 (fun _ => by simp)]; rfl
theorem num_two (l : List (BitVec 8)) (h : 8 ≤ l.length) : (num l 0 8).toNat = (num l 0 2).toNat + 65536 * (num l 2 6).toNat := by
  match l, h with
  | x0 :: x1 :: r, h =>
    have e1 : num (x0 :: x1 :: r) 0 8 = Wire.get (x0 :: x1 :: cut (x0 :: x1 :: r) 2 6) := rfl
    have e2 : num (x0 :: x1 :: r) 0 2 = Wire.get [x0, x1] := rfl
    have hc : (cut (x0 :: x1 :: r) 2 6).length ≤ 6 := by unfold cut; rw [List.length_take]; omega
    rw [e1, e2, get_consN _ _ (by rw [List.length_cons]; omega), get_consN _ _ (by omega), get_consN _ _ (by simp), get_consN _ _ (by simp)]
    show _ + 256 * (_ + 256 * (num _ 2 6).toNat) = _ + 256 * (_ + 256 * 0) + _
    omega
theorem cons_eq2 {α : Type} {a b : α} {l m : List α} (h : a = b) (h2 : l = m) : a :: l = b :: m := by rw [h, h2]
theorem tw_all {α : Type} (p : α → Bool) (l : List α) : ∀ x ∈ l.takeWhile p, p x = true := by
  induction l with
  | nil => intro x hx; exact absurd hx (by simp)
  | cons y l ih =>
    intro x hx
    rw [List.takeWhile_cons] at hx
    cases hy : p y
    · rw [hy] at hx; exact absurd hx (by simp)
    · rw [hy, if_pos rfl] at hx
      rcases List.mem_cons.1 hx with rfl | h
      · exact hy
      · exact ih x h
theorem resOk_true (sz : Nat) (k m : Nat) (l : List (BitVec 8)) : resOk (List.replicate k (sz, true) ++ [(m, false)]) l = allZ ((l.drop (sz * k)).take m) := by
  induction k generalizing l with
  | zero => rw [List.replicate_zero, List.nil_append]; unfold resOk resOk; rw [Bool.and_true, Bool.false_or, Nat.mul_zero, List.drop_zero]
  | succ k ih => rw [List.replicate_succ, List.cons_append]; unfold resOk; rw [Bool.true_or, Bool.true_and, ih, List.drop_drop, Nat.mul_succ, Nat.add_comm]
theorem fieldsOf_true (s : Nat) (k : Nat) (l : List (BitVec 8)) (a : Nat) : fieldsOf l a (List.replicate k (s, true)) = (List.range k).map fun i => (num l (a + s * i) s, (s : Int)) := by
  induction k generalizing a with
  | zero => rfl
  | succ k ih =>
    rw [List.replicate_succ, List.range_succ_eq_map, List.map_cons, List.map_map]
    unfold fieldsOf
    rw [if_pos rfl, ih]
    refine cons_eq2 rfl (List.map_congr_left fun i _ => ?_)
    show _ = (num l (a + s * (i + 1)) s, _)
    rw [show a + s + s * i = a + s * (i + 1) by rw [Nat.mul_succ]; omega]
theorem spSz_true (s k : Nat) : spSz (List.replicate k (s, true)) = s * k := by
  unfold spSz
  induction k with
  | zero => rfl
  | succ k ih => rw [List.replicate_succ, List.map_cons, List.sum_cons, ih, Nat.mul_succ, Nat.add_comm]
/-- The zones of bytes. -/
def zoN (l : List (BitVec 8)) : Nat := min (num l 0 8).toNat 511
def zoL (l : List (BitVec 8)) (n : Nat) : List (BitVec 64) := (List.range n).map fun i => num l (8 + 8 * i) 8
def zoRd (l : List (BitVec 8)) : List (BitVec 64) := zoL l (zoN l)
def zoOkB (l : List (BitVec 8)) : Bool := zoOkL (zoRd l) && (zoBL (zoRd l) == l)
def zoM (l : List (BitVec 8)) : Nat := (num l 0 2).toNat
def zoFine (l : List (BitVec 8)) : Bool := decide (zoM l ≤ 511) && (allZ (cut l 2 6) && (zoRis (zoL l (zoM l)) && allZ (l.drop (8 + 8 * zoM l))))
theorem zoL_len (l : List (BitVec 8)) (n : Nat) : (zoL l n).length = n := by unfold zoL; rw [List.length_map, List.length_range]
theorem zoL_get (l : List (BitVec 8)) (n i : Nat) (h : i < n) : (zoL l n)[i]? = some (num l (8 + 8 * i) 8) := by unfold zoL; rw [List.getElem?_map, List.getElem?_range h]; rfl
theorem zoL_take (l : List (BitVec 8)) (n k : Nat) (h : k ≤ n) : (zoL l n).take k = zoL l k := by
  unfold zoL; rw [← List.map_take, List.take_range, Nat.min_eq_left h]
theorem zoL_more (l : List (BitVec 8)) (n : Nat) : zoL l (n + 1) = zoL l n ++ [num l (8 + 8 * n) 8] := by unfold zoL; rw [List.range_succ, List.map_append]; rfl
theorem zo_back (l : List (BitVec 8)) (h : l.length = 4096) (n : Nat) (hn : n ≤ 511) (he : (num l 0 8).toNat = n) : (zoBL (zoL l n) == l) = allZ (l.drop (8 + 8 * n)) := by
  have hf : zoFl (zoL l n) = fieldsOf l 0 (List.replicate (1 + n) (8, true)) := by
    rw [fieldsOf_true, Nat.add_comm 1 n, List.range_succ_eq_map, List.map_cons, List.map_map]
    unfold zoFl
    refine cons_eq2 ?_ ?_
    · rw [zoL_len, Nat.zero_add, Nat.mul_zero, ← he, BitVec.ofNat_toNat, BitVec.setWidth_eq]; rfl
    · unfold fl64 zoL
      rw [List.map_map]
      refine List.map_congr_left fun i _ => ?_
      show (num l (8 + 8 * i) 8, (8 : Int)) = (num l (0 + 8 * (i + 1)) 8, _)
      rw [show 0 + 8 * (i + 1) = 8 + 8 * i by omega]; rfl
  unfold zoBL
  rw [hf, page_back l _ (4096 - (8 + 8 * n)) 4096 (fun s hs => by rw [List.eq_of_mem_replicate hs]; decide) (by rw [spSz_true]; omega) h, resOk_true, show 8 * (1 + n) = 8 + 8 * n by omega, List.take_of_length_le (by rw [List.length_drop]; omega)]
theorem zo_okB (l : List (BitVec 8)) (h : l.length = 4096) : zoOkB l = zoFine l ∧ (zoFine l = true → zoRd l = zoL l (zoM l)) := by
  have h2 := num_two l (by omega)
  have h6 := num_zero l 2 6 (by omega) (by decide)
  have hlt : (num l 0 2).toNat < 65536 := num_lt l 0 2 (by omega) (by decide)
  by_cases hc : (num l 0 8).toNat ≤ 511
  · have z6 : (num l 2 6).toNat = 0 := by omega
    have em : zoM l = (num l 0 8).toNat := by unfold zoM; omega
    have en : zoN l = zoM l := by unfold zoN; rw [em]; omega
    refine ⟨?_, fun _ => by unfold zoRd; rw [en]⟩
    unfold zoOkB zoFine zoRd zoOkL
    rw [en, zo_back l h (zoM l) (by omega) em.symm, h6.1 z6, zoL_len, Bool.true_and, Bool.and_assoc]
  · have hf : zoFine l = false := by
      unfold zoFine
      by_cases q : zoM l ≤ 511
      · have : allZ (cut l 2 6) = false := by
          cases hz : allZ (cut l 2 6)
          · rfl
          · have := h6.2 hz; unfold zoM at q; omega
        rw [this, Bool.false_and, Bool.and_false]
      · rw [decide_eq_false q, Bool.false_and]
    rw [hf]
    refine ⟨?_, fun h => by cases h⟩
    unfold zoOkB
    have : (zoBL (zoRd l) == l) = false := by
      refine beq_eq_false_iff_ne.2 fun hh => ?_
      have hn : zoN l = 511 := by unfold zoN; omega
      have h8 := num_field (zoFl (zoRd l)) (zo_e _) (List.replicate (4096 - (Wire.cat (zoFl (zoRd l))).length) 0#8) 0 (BitVec.ofNat 64 (zoRd l).length, 8) rfl
      have h9 : num (zoBL (zoRd l)) 0 8 = BitVec.ofNat 64 511 := by
        have : (zoRd l).length = 511 := by unfold zoRd; rw [zoL_len, hn]
        rw [this] at h8; exact h8
      rw [hh] at h9
      rw [h9] at hc
      exact hc (by decide)
    rw [this, Bool.and_false]
theorem zo_dec (l : List (BitVec 8)) : decP 4096 zoRd zoOkB [] l = decP 4096 (fun l => zoL l (zoM l)) zoFine [] l := by
  unfold decP
  by_cases h1 : l.length < 4096
  · rw [if_pos h1, if_pos h1]
  · rw [if_neg h1, if_neg h1]
    by_cases h2 : 4096 < l.length
    · rw [if_pos h2, if_pos h2]
    · obtain ⟨e1, e2⟩ := zo_okB l (by omega)
      rw [if_neg h2, if_neg h2, e1]
      by_cases h3 : zoFine l = true
      · rw [if_pos h3, if_pos h3, e2 h3]
      · rw [if_neg h3, if_neg h3]
/-- The namespaces of bytes: those before the first zero. -/
def nsAll (l : List (BitVec 8)) : List (BitVec 32) := (List.range 1024).map fun i => (num l (4 * i) 4).setWidth 32
def nsRd (l : List (BitVec 8)) : List (BitVec 32) := (nsAll l).takeWhile (· != 0#32)
def nsOkB (l : List (BitVec 8)) : Bool := nsOkL (nsRd l) && (nsBL (nsRd l) == l)
def nsFine (l : List (BitVec 8)) : Bool := risB 0#32 (nsRd l) && allZ (l.drop (4 * (nsRd l).length))
theorem nsAll_len (l : List (BitVec 8)) : (nsAll l).length = 1024 := by unfold nsAll; rw [List.length_map, List.length_range]
theorem nsAll_get (l : List (BitVec 8)) (i : Nat) (h : i < 1024) : (nsAll l)[i]? = some ((num l (4 * i) 4).setWidth 32) := by unfold nsAll; rw [List.getElem?_map, List.getElem?_range h]; rfl
theorem nsRd_le (l : List (BitVec 8)) : (nsRd l).length ≤ 1024 := by
  have := (List.takeWhile_prefix (· != 0#32) (l := nsAll l)).length_le
  rw [nsAll_len] at this; exact this
theorem nsRd_take (l : List (BitVec 8)) : nsRd l = (nsAll l).take (nsRd l).length := (List.prefix_iff_eq_take.1 (List.takeWhile_prefix _))
theorem nsRd_get (l : List (BitVec 8)) (i : Nat) (h : i < (nsRd l).length) : (nsRd l)[i]? = some ((num l (4 * i) 4).setWidth 32) ∧ (num l (4 * i) 4).setWidth 32 ≠ 0#32 := by
  have h1 := nsRd_le l
  have e : (nsRd l)[i]? = some ((num l (4 * i) 4).setWidth 32) := by
    rw [nsRd_take, List.getElem?_take_of_lt h, nsAll_get l i (by omega)]
  refine ⟨e, ?_⟩
  have hm : (num l (4 * i) 4).setWidth 32 ∈ nsRd l := List.mem_of_getElem? e
  unfold nsRd at hm
  have := tw_all _ _ _ hm
  simpa using this
theorem takeWhile_end {α : Type} (p : α → Bool) (l : List α) (h : (l.takeWhile p).length < l.length) : ∃ x, l[(l.takeWhile p).length]? = some x ∧ p x = false := by
  induction l with
  | nil => exact absurd h (by simp)
  | cons y l ih =>
    rw [List.takeWhile_cons] at h ⊢
    cases hy : p y
    · rw [hy] at h; exact ⟨y, by simp, hy⟩
    · rw [hy] at h
      simp only [if_true, List.length_cons] at h ⊢
      obtain ⟨x, h1, h2⟩ := ih (by omega)
      exact ⟨x, by rw [List.getElem?_cons_succ]; exact h1, h2⟩
theorem nsRd_end (l : List (BitVec 8)) (h : (nsRd l).length < 1024) : (num l (4 * (nsRd l).length) 4).setWidth 32 = 0#32 := by
  obtain ⟨x, h1, h2⟩ := takeWhile_end (· != 0#32) (nsAll l) (by rw [nsAll_len]; exact h)
  replace h1 : (nsAll l)[(nsRd l).length]? = some x := h1
  rw [nsAll_get l _ h] at h1
  injection h1 with h1
  rw [← h1] at h2
  simpa using h2
/-- The first n dwords. -/
def nsN (l : List (BitVec 8)) (n : Nat) : List (BitVec 32) := (List.range n).map fun i => (num l (4 * i) 4).setWidth 32
theorem nsN_len (l : List (BitVec 8)) (n : Nat) : (nsN l n).length = n := by unfold nsN; rw [List.length_map, List.length_range]
theorem nsN_more (l : List (BitVec 8)) (n : Nat) : nsN l (n + 1) = nsN l n ++ [(num l (4 * n) 4).setWidth 32] := by unfold nsN; rw [List.range_succ, List.map_append]; rfl
theorem nsN_get (l : List (BitVec 8)) (n i : Nat) (h : i < n) : (nsN l n)[i]? = some ((num l (4 * i) 4).setWidth 32) := by unfold nsN; rw [List.getElem?_map, List.getElem?_range h]; rfl
theorem nsN_take (l : List (BitVec 8)) (n k : Nat) (h : k ≤ n) : (nsN l n).take k = nsN l k := by
  unfold nsN; rw [← List.map_take, List.take_range, Nat.min_eq_left h]
theorem nsRd_N (l : List (BitVec 8)) : nsRd l = nsN l (nsRd l).length := by
  refine (nsRd_take l).trans ?_
  exact nsN_take l 1024 _ (nsRd_le l)
theorem nsN_back (l : List (BitVec 8)) (h : l.length = 4096) (n : Nat) (h1 : n ≤ 1024) : (nsBL (nsN l n) == l) = allZ (l.drop (4 * n)) := by
  have hf : fl32 (nsN l n) = fieldsOf l 0 (List.replicate n (4, true)) := by
    rw [fieldsOf_true]
    unfold fl32 nsN
    rw [List.map_map]
    refine List.map_congr_left fun i hi => ?_
    have hi : i < n := List.mem_range.1 hi
    show (((num l (4 * i) 4).setWidth 32).setWidth 64, (4 : Int)) = (num l (0 + 4 * i) 4, _)
    rw [num_back32 l (4 * i) (by omega), Nat.zero_add]; rfl
  unfold nsBL
  rw [hf, page_back l _ (4096 - 4 * n) 4096 (fun s hs => by rw [List.eq_of_mem_replicate hs]; decide) (by rw [spSz_true]; omega) h, resOk_true, List.take_of_length_le (by rw [List.length_drop]; omega)]
theorem ns_back (l : List (BitVec 8)) (h : l.length = 4096) : (nsBL (nsRd l) == l) = allZ (l.drop (4 * (nsRd l).length)) := by
  have e := nsN_back l h _ (nsRd_le l)
  rw [← nsRd_N] at e
  exact e
theorem ns_dec (l : List (BitVec 8)) : decP 4096 nsRd nsOkB [] l = decP 4096 nsRd nsFine [] l := by
  refine decP_congr _ _ _ _ _ _ _ fun h => ⟨rfl, ?_⟩
  unfold nsOkB nsFine nsOkL
  rw [ns_back l h, decide_eq_true (nsRd_le l), Bool.true_and]
/-- Fields that are all laid. -/
def lT (fl : List WF) : List (WF × Bool) := fl.map fun f => (f, true)
theorem lT_fst (fl : List WF) : (lT fl).map (·.1) = fl := by unfold lT; rw [List.map_map]; exact List.map_id _
theorem plcT_more (s : Nat) (x : WF) : ∀ (fl : List WF) (a : Nat), (∀ f ∈ fl, f.2 = (s : Int)) → plc a (lT (fl ++ [x])) = plc a (lT fl) ++ [(a + s * fl.length, Wire.putB x.1 x.2)]
  | [], a, _ => by rw [List.length_nil, Nat.mul_zero, Nat.add_zero]; rfl
  | f :: fl, a, h => by
    have hf : f.2.toNat = s := by rw [h f List.mem_cons_self]; rfl
    have e : ∀ r : List WF, plc a (lT (f :: r)) = (a, Wire.putB f.1 f.2) :: plc (a + f.2.toNat) (lT r) := fun r => rfl
    rw [List.cons_append, e, e, hf, plcT_more s x fl (a + s) (fun g hg => h g (List.mem_cons_of_mem _ hg)), List.cons_append, List.length_cons, Nat.mul_succ, show a + s + s * fl.length = a + (s * fl.length + s) by omega]
theorem fl32_s (l : List (BitVec 32)) : ∀ f ∈ fl32 l, f.2 = ((4 : Nat) : Int) := fun f hf => by obtain ⟨x, -, rfl⟩ := List.mem_map.1 hf; rfl
theorem fl64_s (l : List (BitVec 64)) : ∀ f ∈ fl64 l, f.2 = ((8 : Nat) : Int) := fun f hf => by obtain ⟨x, -, rfl⟩ := List.mem_map.1 hf; rfl
theorem fl32_snoc (l : List (BitVec 32)) (x : BitVec 32) : fl32 (l ++ [x]) = fl32 l ++ [(x.setWidth 64, 4)] := by unfold fl32; rw [List.map_append]; rfl
theorem fl64_snoc (l : List (BitVec 64)) (x : BitVec 64) : fl64 (l ++ [x]) = fl64 l ++ [(x, 8)] := by unfold fl64; rw [List.map_append]; rfl
theorem fl32_n (l : List (BitVec 32)) : (fl32 l).length = l.length := by unfold fl32; rw [List.length_map]
theorem fl64_n (l : List (BitVec 64)) : (fl64 l).length = l.length := by unfold fl64; rw [List.length_map]
/-- What is laid so far. -/
def nsP (N : Nat) (l : List (BitVec 32)) : List (BitVec 8) := Lay.lays (List.replicate N 0#8) (plc 0 (lT (fl32 l)))
theorem nsP_more (N : Nat) (l : List (BitVec 32)) (x : BitVec 32) : Lay.lay (nsP N l) (4 * l.length) (Wire.le (x.setWidth 64) 4) = nsP N (l ++ [x]) := by
  unfold nsP
  rw [fl32_snoc, plcT_more 4 (x.setWidth 64, 4) (fl32 l) 0 (fl32_s l), Lay.lays_snoc, fl32_n, Nat.zero_add, (fit32 x).2]
theorem nsP_all (N : Nat) (l : List (BitVec 32)) (h : 4 * l.length ≤ N) : nsP N l = pageB N (fl32 l) := by
  have := lays_page (lT (fl32 l)) N (fun f hf => by
    obtain ⟨g, hg, rfl⟩ := List.mem_map.1 hf
    obtain ⟨x, -, rfl⟩ := List.mem_map.1 hg
    exact ⟨(fit32 x).1, fun h => by cases h⟩) (by rw [lT_fst, fl32_sz]; exact h)
  rw [lT_fst] at this
  exact this
theorem le_two (n : BitVec 64) (h : n.toNat < 65536) : Wire.le n 8 = Wire.le n 2 ++ List.replicate 6 0#8 := by
  have z : ∀ i, 2 ≤ i → (n >>> (8 * i)).setWidth 8 = 0#8 := fun i hi => by
    apply BitVec.eq_of_toNat_eq
    rw [BitVec.toNat_setWidth, BitVec.toNat_ushiftRight, Nat.shiftRight_eq_div_pow, Nat.div_eq_of_lt (Nat.lt_of_lt_of_le h (Nat.le_trans (by decide : 65536 ≤ 2 ^ 16) (Nat.pow_le_pow_right (by decide) (by omega))))]; rfl
  unfold Wire.le
  simp only [show List.range 8 = [0, 1, 2, 3, 4, 5, 6, 7] from rfl, show List.range 2 = [0, 1] from rfl, List.map_cons, List.map_nil]
  rw [z 2 (by decide), z 3 (by decide), z 4 (by decide), z 5 (by decide), z 6 (by decide), z 7 (by decide)]
  rfl
def zoP (n : Nat) (l : List (BitVec 64)) : List (BitVec 8) := Lay.lays (Lay.lay (List.replicate 4096 0#8) 0 (Wire.le (BitVec.ofNat 64 n) 2)) (plc 8 (lT (fl64 l)))
theorem zoP_nil (n : Nat) : zoP n [] = Lay.lay (List.replicate 4096 0#8) 0 (Wire.le (BitVec.ofNat 64 n) 2) := by
  unfold zoP
  rw [show plc 8 (lT (fl64 [])) = [] from rfl, Lay.lays_nil]
theorem nsP_nil (N : Nat) : nsP N [] = List.replicate N 0#8 := by
  unfold nsP
  rw [show plc 0 (lT (fl32 [])) = [] from rfl, Lay.lays_nil]
theorem zoP_more (n : Nat) (l : List (BitVec 64)) (x : BitVec 64) : Lay.lay (zoP n l) (8 + 8 * l.length) (Wire.le x 8) = zoP n (l ++ [x]) := by
  unfold zoP
  rw [fl64_snoc, plcT_more 8 (x, 8) (fl64 l) 8 (fl64_s l), Lay.lays_snoc, fl64_n, (fit64 x).2]
theorem zoP_all (l : List (BitVec 64)) (h : l.length ≤ 511) : zoP l.length l = zoBL l := by
  have hn : (BitVec.ofNat 64 l.length).toNat = l.length := by rw [BitVec.toNat_ofNat, Nat.mod_eq_of_lt (by omega)]
  have f2 := fit_any (BitVec.ofNat 64 l.length) 2 (by decide) (by decide) (by rw [hn]; omega)
  have f6 := fit0 6 (by decide) (by decide)
  have := lays_page (((BitVec.ofNat 64 l.length, 2), true) :: ((0#64, 6), false) :: lT (fl64 l)) 4096 (by
    rw [List.forall_mem_cons, List.forall_mem_cons]
    refine ⟨⟨f2.1, fun h => by cases h⟩, ⟨f6.1, fun _ => rfl⟩, fun f hf => ?_⟩
    obtain ⟨g, hg, rfl⟩ := List.mem_map.1 hf
    obtain ⟨x, -, rfl⟩ := List.mem_map.1 hg
    exact ⟨(fit64 x).1, fun h => by cases h⟩) (by
    rw [List.map_cons, List.map_cons, lT_fst]
    show 2 + (6 + sz (fl64 l)) ≤ 4096
    rw [fl64_sz]; omega)
  rw [List.map_cons, List.map_cons, lT_fst] at this
  have e1 : zoP l.length l = Lay.lays (List.replicate 4096 0#8) (plc 0 (((BitVec.ofNat 64 l.length, 2), true) :: ((0#64, 6), false) :: lT (fl64 l))) := by
    have : plc 0 (((BitVec.ofNat 64 l.length, 2), true) :: ((0#64, 6), false) :: lT (fl64 l)) = (0, Wire.putB (BitVec.ofNat 64 l.length) 2) :: plc 8 (lT (fl64 l)) := rfl
    rw [this, show Wire.putB (BitVec.ofNat 64 l.length) 2 = Wire.le (BitVec.ofNat 64 l.length) 2 from f2.2]
    rfl
  rw [e1, this]
  have e2 : Wire.cat ((BitVec.ofNat 64 l.length, 2) :: (0#64, 6) :: fl64 l) = Wire.cat (zoFl l) := by
    unfold zoFl Wire.cat
    rw [List.flatMap_cons, List.flatMap_cons, List.flatMap_cons, ← List.append_assoc]
    refine congrArg (· ++ _) ?_
    show Wire.putB (BitVec.ofNat 64 l.length) (2 : Nat) ++ Wire.putB 0#64 (6 : Nat) = Wire.putB (BitVec.ofNat 64 l.length) 8
    rw [f2.2, f6.2, (fit64 _).2, le_two _ (by rw [hn]; omega)]
  unfold zoBL pageB
  rw [e2]
/-- Effects. -/
def efB (a b : List (BitVec 32)) : List (BitVec 8) := nsBL (a ++ b)
def ioN (l : List (BitVec 8)) (n : Nat) : List (BitVec 32) := (List.range n).map fun i => (num l (1024 + 4 * i) 4).setWidth 32
theorem ioN_len (l : List (BitVec 8)) (n : Nat) : (ioN l n).length = n := by unfold ioN; rw [List.length_map, List.length_range]
theorem ioN_more (l : List (BitVec 8)) (n : Nat) : ioN l (n + 1) = ioN l n ++ [(num l (1024 + 4 * n) 4).setWidth 32] := by unfold ioN; rw [List.range_succ, List.map_append]; rfl
theorem ef_split (l : List (BitVec 8)) : nsN l 512 = nsN l 256 ++ ioN l 256 := by
  unfold nsN ioN
  rw [show (512 : Nat) = 256 + 256 from rfl, List.range_add, List.map_append, List.map_map]
  refine congrArg (fun z => (List.range 256).map (fun i => BitVec.setWidth 32 (num l (4 * i) 4)) ++ z) (List.map_congr_left fun i _ => ?_)
  show (num l (4 * (256 + i)) 4).setWidth 32 = _
  rw [show 4 * (256 + i) = 1024 + 4 * i by omega]
theorem ef_back (l : List (BitVec 8)) (h : l.length = 4096) : (efB (nsN l 256) (ioN l 256) == l) = allZ (l.drop 2048) := by
  unfold efB
  rw [← ef_split, nsN_back l h 512 (by decide)]
theorem lay_left (A B d : List (BitVec 8)) (p : Nat) (h : p + d.length ≤ A.length) : Lay.lay (A ++ B) p d = Lay.lay A p d ++ B := by
  unfold Lay.lay
  rw [List.take_append_of_le_length (by omega), List.drop_append_of_le_length h]; simp only [List.append_assoc]
theorem lay_right (A B d : List (BitVec 8)) (p : Nat) : Lay.lay (A ++ B) (A.length + p) d = A ++ Lay.lay B p d := by
  unfold Lay.lay
  rw [List.take_length_add_append, Nat.add_assoc, List.drop_length_add_append]; simp only [List.append_assoc]
theorem nsP_len (N : Nat) (l : List (BitVec 32)) (h : 4 * l.length ≤ N) : (nsP N l).length = N := by
  rw [nsP_all N l h]; exact pageB_len (by rw [cat_len0 _ (fl32_e l), fl32_sz]; exact h)
def efP (a b : List (BitVec 32)) : List (BitVec 8) := nsP 1024 a ++ nsP 3072 b
theorem efP_a (a b : List (BitVec 32)) (x : BitVec 32) (h : a.length < 256) : Lay.lay (efP a b) (4 * a.length) (Wire.le (x.setWidth 64) 4) = efP (a ++ [x]) b := by
  unfold efP
  rw [lay_left _ _ _ _ (by rw [nsP_len 1024 a (by omega), Wire.le_len]; omega), nsP_more]
theorem efP_b (a b : List (BitVec 32)) (x : BitVec 32) (h : a.length ≤ 256) : Lay.lay (efP a b) (1024 + 4 * b.length) (Wire.le (x.setWidth 64) 4) = efP a (b ++ [x]) := by
  unfold efP
  have e := nsP_len 1024 a (by omega)
  have := lay_right (nsP 1024 a) (nsP 3072 b) (Wire.le (x.setWidth 64) 4) (4 * b.length)
  rw [e] at this
  rw [this, nsP_more]
theorem efP_all (a b : List (BitVec 32)) (ha : a.length = 256) (hb : b.length = 256) : efP a b = efB a b := by
  unfold efP efB nsBL
  rw [nsP_all 1024 a (by omega), nsP_all 3072 b (by omega)]
  have e : fl32 (a ++ b) = fl32 a ++ fl32 b := by unfold fl32; rw [List.map_append]
  have c : Wire.cat (fl32 (a ++ b)) = Wire.cat (fl32 a) ++ Wire.cat (fl32 b) := by rw [e]; unfold Wire.cat; rw [List.flatMap_append]
  have na : (Wire.cat (fl32 a)).length = 1024 := by rw [cat_len0 _ (fl32_e a), fl32_sz]; omega
  have nb : (Wire.cat (fl32 b)).length = 1024 := by rw [cat_len0 _ (fl32_e b), fl32_sz]; omega
  unfold pageB
  rw [c, List.length_append, na, nb, Nat.sub_self, List.replicate_zero, List.append_nil, List.append_assoc]
end Lg
end Go.Proofs.YthnnopjakpjoeaaDoor
namespace Go.Proofs.YthnnopjakpjoeaaDoor
open Go.RowKit Lg
set_option linter.unusedVariables false
set_option linter.unusedSimpArgs false
theorem run_from1 (g o n c : Nat) (h2 : 2 ≤ n) (hnc : n ≤ c) (hc : c ≤ 9223372036854775807) (w' : World) :
    (Instr.slice 121 (.slice (some ⟨g, o, none⟩) n c) (some (.int .i64 1)) none none).run Tryd.prog w' = .ok (.slice (some ⟨g, o + 1, none⟩) (n - 1) (c - 1)) w' := by
  have ht : Tryd.prog.underlying 121 = some (.slice 23) := Tryd.underlying121
  have he : Tryd.prog.elem 121 = 23 := by simp [Program.elem, ht]
  have ht' : Tryd.prog.underlying 121 = some (.slice (Tryd.prog.elem 121)) := by rw [he]; exact ht
  have hs : (Tryd.prog.info? 23).map (·.size) = some 1 := by kernel_rfl
  have hz : (sizeOf (Tryd.prog.elem 121)).run Tryd.prog w' = .ok 1 w' := by
    rw [he]
    obtain ⟨i, hi, hi'⟩ := Option.map_eq_some_iff.1 hs
    simp [sizeOf, typeInfo, hi, hi']
  have h := run_slice_l w' 121 (some ⟨g, o, none⟩) n c ht' .i64 ((1 : Nat) : Int) (by omega) (by omega)
  rw [hz] at h
  refine Eq.trans h ?_
  simp only [Result.andThen, sliced, Option.map_some, Nat.mul_one, Addr.add_lit, Int.toNat_natCast]
  rw [if_neg (by omega)]
theorem Lg.zoRis_le1 (l : List (BitVec 64)) (h : l.length ≤ 1) : zoRis l = true := by
  match l, h with
  | [], _ => rfl
  | [x], _ => rfl
theorem rising_q (v : Value) (l : List (BitVec 64)) (a : BitVec 64) (b : Bool) (w : World) (k : Nat) (hv : SliceV (w.drewN k) (fun y : BitVec 64 => [Value.int .u64 (uv y)]) v l) (hl : l.length ≤ 1000000) (hb : risB a l = b) :
    Calls Tryd.prog 118 #[v, .int .u64 (uv a)] (w.drewN k) fun e w' => e = .returned (.bool b) ∧ ∃ m, w' = w.drewN m :=
  Calls.quiet_of_same ((rising_u64 v l a b _ hv hl hb).mono fun _ _ h => ⟨h.1, h.2.symm⟩)
set_option maxRecDepth 20000 in
set_option maxHeartbeats 3200000 in
theorem EncZ_at (v : Value) (l : List (BitVec 64)) (e : Int) (B : List (BitVec 8)) (w : World) (hv : SliceV w (fun y : BitVec 64 => [Value.int .u64 (uv y)]) v l) (hl : l.length ≤ 1000000) (he : zoEL l = e) (hB : zoRL l = B) :
    Calls Tryd.prog 55 #[v] w fun r w' => ∃ u, r = .returned (.tuple #[u, .int .i64 e]) ∧ w'.ownsRow w.heap.size 5 1 u B.length (by8 B) ∧ Below w.heap.size w w' := by
  have HL := Lib.hid hl
  obtain ⟨ad, c, rfl, h0, h1, h2, h3⟩ := hv
  have ROW := Lib.hid (show Row w ad (wd l) by rw [flat1] at h3; exact h3)
  have hm : (l.length : Int) ≤ 9223372036854775807 := by omega
  have HC := Lib.hid (show l.length ≤ c ∧ c ≤ 9223372036854775807 from ⟨h1, h2⟩)
  unfold zoEL at he
  unfold zoRL at hB
  have HE := Lib.hid he; have HB := Lib.hid hB
  obtain ⟨ok, hok⟩ : ∃ b, zoOkL l = b := ⟨_, rfl⟩
  have HOK := Lib.hid hok
  clear h0 h1 h2 h3 he hB hok hl
  go_enter Tryd.func55, Tryd.ntmps55
  go_upto_region 1 with (fail)
  go_cut [23] (fun s wx => s = .bool (!ok) ∧ Below w.heap.size w wx)
  case first =>
    by_cases c5 : 511 < l.length
    · have d1 : decide ((511 : Int) < l.length) = true := decide_eq_true (by omega)
      have d2 : decide (511 < l.length) = true := decide_eq_true c5
      obtain rfl : ok = false := by rw [← HOK.out]; unfold zoOkL; rw [decide_eq_false (by omega : ¬ l.length ≤ 511), Bool.false_and]
      clear c5
      go_quiet (fail)
      go_wp2
      go_meet
      exact ⟨rfl, gr_drewN w _⟩
    have d1 : decide ((511 : Int) < l.length) = false := decide_eq_false (by omega)
    have d2 : decide (511 < l.length) = false := decide_eq_false c5
    have ho : zoRis l = ok := by rw [← HOK.out]; unfold zoOkL; rw [decide_eq_true (by omega : l.length ≤ 511), Bool.true_and]
    clear c5
    by_cases c1 : 1 < l.length
    · have d3 : decide ((1 : Int) < l.length) = true := decide_eq_true (by omega)
      have d4 : decide (1 < l.length) = true := decide_eq_true c1
      · obtain ⟨x, r, hxr⟩ : ∃ x r, l = x :: r := by
          cases l with
          | nil => exact absurd c1 (by simp)
          | cons x r => exact ⟨x, r, rfl⟩
        have hxl : l.length = r.length + 1 := by rw [hxr]; rfl
        obtain ⟨g, o, rfl, c0⟩ := ROW.out.at (i := 0) (v := .int .u64 (uv x)) (by rw [hxr]; rfl)
        rw [Nat.add_zero] at c0
        have rs := run_from1 g o l.length c (by omega) HC.out.1 HC.out.2
        have hi : (0 : Int) < (l.length : Nat) := by omega
        have RR := Lib.hid (show ∀ k, SliceV (w.drewN k) (fun y : BitVec 64 => [Value.int .u64 (uv y)]) (.slice (some ⟨g, o + 1, none⟩) (l.length - 1) (c - 1)) r from fun k => ⟨_, _, by rw [hxl]; rfl, fun h => (by cases h), by have := HC.out.1; omega, by have := HC.out.2; omega, by
          rw [flat1]
          have h := (ROW.out.below (gr_drewN w k)).drop 1
          rw [hxr] at h
          exact h⟩)
        have HR := Lib.hid (show risB x r = ok by rw [← ho, hxr]; rfl)
        have q0 : ∀ n (y : KeepT nowhere (w.drewN n)), y.val.cell? ⟨g, o, none⟩ = some (.int .u64 (uv x)) := fun n y => y.cell (below_getU (gr_drewN w n) c0) id
        have HL2 := Lib.hid (show r.length ≤ 1000000 by have := HL.out; omega)
        clear hxr hxl
        clear ho c1
        go_quiet ((go_at_call 118; exact rising_q _ r x ok w _ (RR.out _) HL2.out HR.out))
        go_wp2
        go_meet
        exact ⟨rfl, gr_drewN w _⟩
    · have d3 : decide ((1 : Int) < l.length) = false := decide_eq_false (by omega)
      have d4 : decide (1 < l.length) = false := decide_eq_false c1
      obtain rfl : ok = true := by
        rw [← ho]
        exact zoRis_le1 l (by omega)
      clear c1 ho
      go_quiet (fail)
      go_wp2
      go_meet
      exact ⟨rfl, gr_drewN w _⟩
  case rest =>
    obtain ⟨rfl, hw⟩ := hcut
    obtain ⟨w5, hw5⟩ : ∃ x, x = wc := ⟨_, rfl⟩
    subst hw5
    have D5 := Lib.hid hw
    clear hw
    cases ok
    · have he := HE.out; have hB := HB.out
      rw [HOK.out] at he hB
      simp only [Bool.false_eq_true, if_false] at he hB
      subst he hB
      go_wp2
      go_ret2
      exact ⟨_, rfl, World.ownsRow_nil _ _ _ _, D5.out⟩
    have he := HE.out; have hB := HB.out
    rw [HOK.out] at he hB
    simp only [if_true] at he hB
    subst he
    have H5 := Lib.hid (show l.length ≤ 511 by have h := HOK.out; unfold zoOkL at h; simp at h; exact h.1)
    have HBB := Lib.hid hB
    clear hB HB HE HOK
    go_upto_region 4 with (first
      | (go_at_call 100; go_loud (refine (f_any _ 8 _).mono ?_; rintro r w1 ⟨rfl, hw⟩; have D1 := Lib.hid (gr_tr D5.out hw); clear hw)))
    have O := Lib.hid (show (w1.alloc (.cells #[.int .u64 (uv (BitVec.ofNat 64 l.length)), .int .i64 8] 192)).ownsRow w.heap.size 192 2 (.slice (some ⟨w1.heap.size, 0, none⟩) 1 1) 1 (fCells ((BitVec.ofNat 64 l.length, 8) :: fl64 (l.take 0))) by
      have h := World.ownsRow_lit (base := w.heap.size) (size := 2) (e := 192) w1 #[.int .u64 (uv (BitVec.ofNat 64 l.length)), .int .i64 8] 1 (by have := D1.out.size; exact this) (by decide) rfl
      have e : (#[.int .u64 (uv (BitVec.ofNat 64 l.length)), .int .i64 8] : Array Value).toList = fCells ((BitVec.ofNat 64 l.length, 8) :: fl64 (l.take 0)) := by
        rfl
      rw [← e]; exact h)
    have C := Lib.hid (gr_tr D1.out (gr_alloc w1 (.cells #[.int .u64 (uv (BitVec.ofNat 64 l.length)), .int .i64 8] 192)))
    obtain ⟨V, hV⟩ : ∃ V, w1.alloc (.cells #[.int .u64 (uv (BitVec.ofNat 64 l.length)), .int .i64 8] 192) = V := ⟨_, rfl⟩
    rw [hV] at O C ⊢
    clear hV
    go_upto_region 5 with (fail)
    go_loopw [4, 31] (fun u i wr => ∃ k : Nat, k ≤ l.length ∧ i = .int .i64 k ∧ wr.ownsRow w.heap.size 192 2 u (1 + k) (fCells ((BitVec.ofNat 64 l.length, 8) :: fl64 (l.take k))) ∧ Below w.heap.size w wr) (fun _ i _ => l.length - (intOf i).toNat)
    case atStart => exact ⟨0, by omega, rfl, O.out, C.out⟩
    case round =>
      obtain ⟨k, hk, rfl, ho, hb⟩ := hrel
      have O1 := Lib.hid ho; have D2 := Lib.hid hb; clear ho hb
      by_cases hlt : k < l.length
      · obtain ⟨y, hy⟩ : ∃ y, l[k]? = some y := ⟨_, List.getElem?_eq_getElem hlt⟩
        obtain ⟨g, o, rfl, c0⟩ := (ROW.out.below D2.out).at (i := k) (v := .int .u64 (uv y)) (by unfold wd; rw [List.getElem?_map, hy]; rfl)
        have HS := Lib.hid (show (BitVec.ofNat 64 l.length, (8 : Int)) :: fl64 (l.take (k + 1)) = ((BitVec.ofNat 64 l.length, 8) :: fl64 (l.take k)) ++ [(y, 8)] by
          obtain ⟨h5, rfl⟩ := List.getElem?_eq_some_iff.1 hy
          rw [List.take_succ_eq_append_getElem h5, fl64_snoc]; rfl)
        clear hy
        go_wp2_with (first
          | (go_at_call 100; go_loud (refine (f_any _ 8 _).mono ?_; rintro r w3 ⟨rfl, hw⟩; have D3 := Lib.hid (gr_tr D2.out hw); have O3 := Lib.hid (own_below O1.out hw); clear hw))
          | (at_builtin; refine app_field rfl (.tmp 35) (.tmp 38) rfl _ w.heap.size (1 + k) ((BitVec.ofNat 64 l.length, 8) :: fl64 (l.take k)) rfl O3.out D3.out.size (y, 8) _ rfl (by have := H5.out; omega) ?_; intro v2 w4 ho hb; have O4 := Lib.hid ho; have D4 := Lib.hid (D3.out.trans hb); clear ho hb))
        go_roundw
        case rel => exact ⟨k + 1, by omega, by go_num, by rw [HS.out, ← Nat.add_assoc]; exact O4.out, D4.out⟩
        case measure => simp [intOf]; omega
      · obtain rfl : k = l.length := by omega
        have FV := Lib.hid (show FieldsV wr u4 (zoFl l) from FieldsV.own (by unfold zoFl; rw [List.length_cons, fl64_n, Nat.add_comm]) (by have := O1.out; rwa [List.take_length] at this))
        go_wp2_with (go_at_call 101; go_loud (refine (page_any 4096 4096 _ (zoFl l) B _ rfl FV.out (by have := H5.out; unfold zoFl; rw [List.length_cons, fl64_n]; omega) (zo_e l) (by omega) (by rw [zo_cat]; have := H5.out; omega) HBB.out).mono ?_; rintro r w6 ⟨u6, rfl, ho, hw⟩; have V3 := Lib.hid (own_base ho D2.out.size); have D3 := Lib.hid (gr_tr D2.out hw); clear ho hw))
        go_ret2
        exact ⟨_, rfl, V3.out, D3.out⟩
theorem chg_grow {w wr w2 : World} {p : Nat} {e : TypeId} {size n : Nat} {u : Value} {xs : List Value} (hc : Chg (fun b => b = p) w wr) (ho : wr.ownsRow w.heap.size e size u n xs) (hg : wr.grownBy w2 u.ownBlock) : Chg (fun b => b = p) w w2 :=
  Chg.below_base (fun b => b = p) hc hg (fun k hk => (ho.lt k hk).1)
set_option maxHeartbeats 3200000 in
set_option maxRecDepth 20000 in
theorem readZ_at {d : Nat} (p : Nat) (v : Value) (l : List (BitVec 8)) (w : World) (hp : RdAt w 287 p d v l 0) (hl : l.length = 4096) :
    Calls Tryd.prog 120 #[.pointer (some ⟨p, 0, none⟩)] w fun e w' => ∃ u, e = .returned u ∧ w'.ownsRow w.heap.size 23 1 u (zoRd l).length (wd (zoRd l)) ∧ Chg (fun b => b = p) w w' := by
  obtain ⟨X, hX⟩ : ∃ x, num l 0 8 = x := ⟨_, rfl⟩
  obtain ⟨n, hn⟩ : ∃ n, zoN l = n := ⟨_, rfl⟩
  have hn5 : n ≤ 511 := by rw [← hn]; unfold zoN; omega
  have HM := Lib.hid (show min (uv X) 511 = (n : Int) by
    have : uv X = (X.toNat : Int) := rfl
    rw [this, ← hn, ← hX]; unfold zoN; omega)
  have H0 := Lib.hid hX
  have HL := Lib.hid hl
  have HN := Lib.hid hn
  have H5 := Lib.hid hn5
  have PLT := Lib.hid hp.lt
  have R0 := Lib.hid (show RdAt w 287 p d v (l.drop 0) 0 by rw [List.drop_zero]; exact hp)
  have hm := hp.lt
  clear hX hn hn5 hl hp hm
  go_enter Tryd.func120, Tryd.ntmps120
  go_upto_region 2 with (go_at_call 104; go_loud (refine (next_at p v l 0 0 8 8 X w rfl R0.out (by decide) (by decide) (by rw [HL.out]; decide) H0.out).mono ?_; rintro r w1 ⟨rfl, ⟨v1, hr⟩, hc⟩; have R1 := Lib.hid hr; have C1 := Lib.hid hc; clear hr hc))
  rw [HM.out]
  go_upto_region 3 with (fail)
  go_loopw [2, 8] (fun u i wr => ∃ k : Nat, k ≤ n ∧ i = .int .u64 k ∧ wr.ownsRow w.heap.size 23 1 u k (wd (zoL l k)) ∧ (∃ vk, RdAt wr 287 p d vk (l.drop (8 + 8 * k)) (8 + 8 * k)) ∧ Chg (fun b => b = p) w wr) (fun _ i _ => n - (intOf i).toNat)
  case atStart => exact ⟨0, by omega, rfl, World.ownsRow_nil _ _ _ _, ⟨_, R1.out⟩, C1.out⟩
  case round =>
    obtain ⟨k, hk, rfl, ho, ⟨vk, hr⟩, hb⟩ := hrel
    have O2 := Lib.hid ho; have R2 := Lib.hid hr; have C2 := Lib.hid hb; clear ho hr hb
    by_cases hlt : k < n
    · obtain ⟨x, hx⟩ : ∃ x, num l (8 + 8 * k) 8 = x := ⟨_, rfl⟩
      have HX := Lib.hid hx
      have ZM := Lib.hid (show zoL l (k + 1) = zoL l k ++ [x] by rw [zoL_more, hx])
      clear hx
      have hk1 : (k : Int) ≤ 511 := by have := H5.out; omega
      have UK := Lib.hid (show uv (BitVec.ofNat 64 k + 1#64) = (k : Int) + 1 by
        show ((BitVec.ofNat 64 k + 1#64).toNat : Int) = _
        rw [BitVec.toNat_add, BitVec.toNat_ofNat, Nat.mod_eq_of_lt (by omega : k < 2 ^ 64)]
        show (((k + 1) % 2 ^ 64 : Nat) : Int) = _
        rw [Nat.mod_eq_of_lt (by omega)]; omega)
      go_wp2_with (first
        | (go_at_call 104; go_loud (refine (next_at p vk l (8 + 8 * k) (8 + 8 * k) 8 8 x wr rfl R2.out (by decide) (by decide) (by rw [HL.out]; have := H5.out; omega) HX.out).mono ?_; rintro r w3 ⟨rfl, ⟨v3, hr⟩, hc⟩; have R3 := Lib.hid hr; have C3 := Lib.hid (C2.out.trans hc); have O3 := Lib.hid (own_chg O2.out hc (fun k hk => by have h1 := (O2.out.lt k hk).1; have h2 := PLT.out; omega)); clear hr hc))
        | (at_builtin; refine app_word rfl (.tmp 10) (.tmp 13) rfl _ w.heap.size k (zoL l k) rfl (own_below O3.out (gr_alloc w3 _)) (Nat.le_trans C3.out.size (gr_alloc w3 _).size) w3.heap.size x rfl (heap_alloc_new w3 _) (by have := H5.out; omega) ?_; intro v2 w4 ho hg hv2; have O4 := Lib.hid ho; have Z4 := Lib.hid (each_step (C3.out.trans (Chg.of_below (gr_alloc w3 (.cells #[.int .u64 (uv x)] 23)))) (Chg.refl _ _) (own_below O3.out (gr_alloc w3 (.cells #[.int .u64 (uv x)] 23))) (R3.out.below (gr_alloc w3 (.cells #[.int .u64 (uv x)] 23))) PLT.out hg); clear ho hg hv2))
      go_roundw
      case rel => exact ⟨k + 1, by omega, by rw [UK.out]; go_num, by rw [ZM.out]; exact O4.out, ⟨_, by have h := Z4.out.1; rwa [show 8 + 8 * k + 8 = 8 + 8 * (k + 1) by omega] at h⟩, Z4.out.2⟩
      case measure => simp [intOf, UK.out]; omega
    · obtain rfl : k = n := by omega
      go_wp2
      go_ret
      exact ⟨_, rfl, by unfold zoRd; rw [zoL_len, HN.out]; exact O2.out, C2.out⟩
set_option maxHeartbeats 3200000 in
set_option maxRecDepth 20000 in
theorem decoded_Z (l : List (BitVec 8)) (bv : Value) (w : World) (y : List (BitVec 64)) (e : Int) (hb : BytesV w bv l) (hl : l.length ≤ 140737488355328) (hd : decP 4096 zoRd zoOkB [] l = (y, e)) :
    Calls Tryd.prog 119 #[bv, .int .i64 4096, .func (.func 120) #[] #[], .func (.func 55) #[] #[]] w fun r w' => ∃ u, r = .returned (.tuple #[u, .int .i64 e]) ∧ SliceV w' (fun y : BitVec 64 => [Value.int .u64 (uv y)]) u y ∧ Below w.heap.size w w' := by
  obtain ⟨av, cv, rfl, hv0, hv1, hv2, hv3⟩ := id hb
  have hm : l.length ≤ 9223372036854775807 := by omega
  have BV := Lib.hid hb
  have HLL := Lib.hid hl
  clear hb hv0 hv1 hv2 hv3 hl
  unfold decP at hd
  by_cases p1 : l.length < 4096
  · rw [if_pos p1] at hd
    cases hd
    have d1 : decide ((l.length : Int) < 4096) = true := decide_eq_true (by omega)
    have d1b : decide (l.length < 4096) = true := decide_eq_true (by omega)
    clear p1
    go_enter Tryd.func119, Tryd.ntmps119
    go_wp2
    go_ret2
    exact ⟨_, rfl, SliceV.nil0 _, Below.refl _ _⟩
  rw [if_neg p1] at hd
  have d1 : decide ((l.length : Int) < 4096) = false := decide_eq_false (by omega)
  have d1b : decide (l.length < 4096) = false := decide_eq_false (by omega)
  by_cases p2 : 4096 < l.length
  · rw [if_pos p2] at hd
    cases hd
    have d2 : decide (4096 < (l.length : Int)) = true := decide_eq_true (by omega)
    have d2b : decide (4096 < l.length) = true := decide_eq_true (by omega)
    clear p1 p2
    go_enter Tryd.func119, Tryd.ntmps119
    go_wp2
    go_ret2
    exact ⟨_, rfl, SliceV.nil0 _, Below.refl _ _⟩
  rw [if_neg p2] at hd
  have d2 : decide (4096 < (l.length : Int)) = false := decide_eq_false (by omega)
  have d2b : decide (4096 < l.length) = false := decide_eq_false (by omega)
  have HL := Lib.hid (show l.length = 4096 by omega)
  have HD := Lib.hid hd
  clear p1 p2 hd
  obtain ⟨x, hx⟩ : ∃ x, zoRd l = x := ⟨_, rfl⟩
  have HXL := Lib.hid (show x.length ≤ 1000000 by rw [← hx]; unfold zoRd; rw [zoL_len]; unfold zoN; omega)
  have HX := Lib.hid hx
  clear hx
  obtain ⟨bo, hbo⟩ : ∃ b, zoOkL x = b := ⟨_, rfl⟩
  have HO := Lib.hid hbo; clear hbo
  go_enter Tryd.func119, Tryd.ntmps119
  go_upto_region 6 with (first
    | (go_at_call 149; go_loud (refine (NewReader_any _ l w BV.out HLL.out).mono ?_; rintro r w1 ⟨p, v, rfl, hp, hr, hw⟩; have HP := Lib.hid hp; have R1 := Lib.hid hr; have D1 := Lib.hid hw; clear hp hr hw))
    | (go_at_call 120; go_loud (refine (readZ_at p v l _ R1.out HL.out).mono ?_; rw [HX.out]; rintro r w2 ⟨u, rfl, ho, hc⟩; have D2 := Lib.hid (hc.fresh D1.out (fun k hk => by have h1 := HP.out; subst hk; omega)); have S2 := Lib.hid (SliceV.of_wd ho); clear ho hc)))
  clear d1 d1b d2 d2b
  have B2 := Lib.hid (BV.out.below D2.out)
  cases bo
  · have EC := fun w h => EncZ_at u x 2 [] w h HXL.out (by unfold zoEL; rw [HO.out]; rfl) (by unfold zoRL; rw [HO.out]; rfl)
    go_wp2_with (go_at_call 55; go_loud (refine (EC _ S2.out).mono ?_; rintro r w4 ⟨u4, rfl, hu, hw⟩; have D4 := Lib.hid (gr_tr D2.out hw); clear hu hw))
    obtain ⟨e1, e2⟩ : y = [] ∧ e = 6 := by
      have h := HD.out
      unfold zoOkB at h
      rw [HX.out, HO.out] at h
      simp at h
      first | exact ⟨h.1.symm, h.2.symm⟩ | exact ⟨h.1, h.2.symm⟩
    rw [e1, e2]
    go_ret2
    exact ⟨_, rfl, SliceV.nil0 _, D4.out⟩
  have EC := fun w h => EncZ_at u x 0 (zoBL x) w h HXL.out (by unfold zoEL; rw [HO.out]; rfl) (by unfold zoRL; rw [HO.out]; rfl)
  obtain ⟨bq, hbq⟩ : ∃ b, (zoBL x == l) = b := ⟨_, rfl⟩
  have HQ := Lib.hid hbq; clear hbq
  obtain ⟨NB, hNB⟩ : ∃ B, zoBL x = B := ⟨_, rfl⟩
  rw [hNB] at EC
  have HQN := Lib.hid (show (NB == l) = bq by rw [← hNB]; exact HQ.out)
  clear hNB
  cases bq
  · go_wp2_with (first
      | (go_at_call 55; go_loud (refine (EC _ S2.out).mono ?_; rintro r w4 ⟨u4, rfl, hu, hw⟩; have U := Lib.hid (BytesV.of_own hu); have B4 := Lib.hid (B2.out.below hw); have D4 := Lib.hid (gr_tr D2.out hw); clear hu hw))
      | (go_at_call 128; go_loud (refine (eqB_at _ _ _ _ _ _ U.out B4.out HQN.out).mono ?_; rintro r w5 ⟨rfl, rfl⟩)))
    obtain ⟨e1, e2⟩ : y = [] ∧ e = 6 := by
      have h := HD.out
      unfold zoOkB at h
      rw [HX.out, HO.out, HQ.out] at h
      simp at h
      first | exact ⟨h.1.symm, h.2.symm⟩ | exact ⟨h.1, h.2.symm⟩
    rw [e1, e2]
    go_ret2
    exact ⟨_, rfl, SliceV.nil0 _, D4.out⟩
  · go_wp2_with (first
      | (go_at_call 55; go_loud (refine (EC _ S2.out).mono ?_; rintro r w4 ⟨u4, rfl, hu, hw⟩; have U := Lib.hid (BytesV.of_own hu); have B4 := Lib.hid (B2.out.below hw); have S4 := Lib.hid (S2.out.below hw); have D4 := Lib.hid (gr_tr D2.out hw); clear hu hw))
      | (go_at_call 128; go_loud (refine (eqB_at _ _ _ _ _ _ U.out B4.out HQN.out).mono ?_; rintro r w5 ⟨rfl, rfl⟩)))
    obtain ⟨e1, e2⟩ : y = x ∧ e = 0 := by
      have h := HD.out
      unfold zoOkB at h
      rw [HX.out, HO.out, HQ.out] at h
      simp at h
      first | exact ⟨h.1.symm, h.2.symm⟩ | exact ⟨h.1, h.2.symm⟩
    rw [e1, e2]
    go_ret2
    exact ⟨_, rfl, S4.out, D4.out⟩
set_option maxHeartbeats 1600000 in
set_option maxRecDepth 20000 in
theorem Decode_Z (l : List (BitVec 8)) (bv : Value) (w : World) (y : List (BitVec 64)) (e : Int) (hb : BytesV w bv l) (hl : l.length ≤ 140737488355328) (hd : decP 4096 zoRd zoOkB [] l = (y, e)) :
    Calls Tryd.prog 57 #[bv] w fun r w' => ∃ u, r = .returned (.tuple #[u, .int .i64 e]) ∧ SliceV w' (fun y : BitVec 64 => [Value.int .u64 (uv y)]) u y ∧ Below w.heap.size w w' := by
  have BV := Lib.hid hb; have HL := Lib.hid hl; have HD := Lib.hid hd
  clear hb hl hd
  go_enter Tryd.func57, Tryd.ntmps57
  go_wp2_with (go_at_call 119; go_loud (refine (decoded_Z l _ _ y e BV.out HL.out HD.out).mono ?_; rintro r w3 ⟨u, rfl, hs, hw⟩; have S3 := Lib.hid hs; have D3 := Lib.hid hw; clear hs hw))
  go_ret2
  exact ⟨_, rfl, S3.out, D3.out⟩
end Go.Proofs.YthnnopjakpjoeaaDoor
namespace Go.Proofs.YthnnopjakpjoeaaDoor
open Go.RowKit Lg
set_option linter.unusedVariables false
set_option linter.unusedSimpArgs false
theorem own_shape3 {w : World} {base : Nat} {e : TypeId} {size : Nat} {v : Value} {n : Nat} {xs : List Value} (h : w.ownsRow base e size v n xs) : ∃ a c, v = .slice a n c := by
  obtain ⟨h1, h2⟩ := h
  rcases h2 with ⟨rfl, rfl⟩ | ⟨g, cap, cur, hv, _⟩
  · exact ⟨_, _, rfl⟩
  · exact ⟨_, _, hv⟩
theorem own_addr3 {w : World} {base n : Nat} {e : TypeId} {v : Value} {xs : List Value} (h : w.ownsRow base e 1 v n xs) (hn : 0 < n) : ∃ g c, v = .slice (some ⟨g, 0, none⟩) n c ∧ base ≤ g ∧ n ≤ c ∧ c ≤ 9223372036854775807 := by
  obtain ⟨h1, h2⟩ := h
  rcases h2 with ⟨_, h0⟩ | ⟨g, cap, cur, rfl, hg, _, r1, r2, _⟩
  · omega
  · exact ⟨g, cap, rfl, hg, r1, r2⟩
theorem Lg.wd_one (l : List (BitVec 64)) (k : Nat) (x : BitVec 64) (h : l[k]? = some x) : (wd l)[k]? = some (.int .u64 (uv x)) := by
  unfold wd; rw [List.getElem?_map, h]; rfl
set_option maxRecDepth 20000 in
set_option maxHeartbeats 3200000 in
theorem rEncZ_at (v : Value) (l : List (BitVec 64)) (e : Int) (B : List (BitVec 8)) (w : World) (hv : SliceV w (fun y : BitVec 64 => [Value.int .u64 (uv y)]) v l) (hl : l.length ≤ 1000000) (he : zoEL l = e) (hB : zoRL l = B) :
    Calls Tryd.prog 56 #[v] w fun r w' => ∃ u, r = .returned (.tuple #[u, .int .i64 e]) ∧ BytesV w' u B ∧ Below w.heap.size w w' := by
  obtain ⟨ad, c, rfl, h0, h1, h2, h3⟩ := hv
  have ROW := Lib.hid (show Row w ad (wd l) by rw [flat1] at h3; exact h3)
  have hm : (l.length : Int) ≤ 9223372036854775807 := by omega
  unfold zoEL at he
  unfold zoRL at hB
  have HE := Lib.hid he; have HB := Lib.hid hB
  clear h0 h1 h2 h3 he hB hl
  by_cases h5 : 511 < l.length
  · have ho : zoOkL l = false := by unfold zoOkL; rw [decide_eq_false (by omega : ¬ l.length ≤ 511), Bool.false_and]
    have he := HE.out; have hB := HB.out
    rw [ho] at he hB
    simp only [Bool.false_eq_true, if_false] at he hB
    subst he hB
    have d1 : decide ((511 : Int) < l.length) = true := decide_eq_true (by omega)
    have d2 : decide (511 < l.length) = true := decide_eq_true h5
    clear h5 ho HE HB
    go_enter Tryd.func56, Tryd.ntmps56
    go_wp2
    go_ret2
    exact ⟨_, rfl, BytesV.nil _, Below.refl _ _⟩
  have d1 : decide ((511 : Int) < l.length) = false := decide_eq_false (by omega)
  have d2 : decide (511 < l.length) = false := decide_eq_false h5
  have H5 := Lib.hid (show l.length ≤ 511 by omega)
  have HU := Lib.hid (show uv (BitVec.ofNat 64 l.length) = l.length by
    show ((BitVec.ofNat 64 l.length).toNat : Int) = _
    rw [BitVec.toNat_ofNat, Nat.mod_eq_of_lt (by omega)])
  clear h5
  obtain ⟨L0, hL0⟩ : ∃ L, Lay.lay (List.replicate 4096 0#8) 0 (Wire.le (BitVec.ofNat 64 l.length) 2) = L := ⟨_, rfl⟩
  have PZ := Lib.hid ((zoP_nil l.length).trans hL0)
  have PM := Lib.hid (fun (m : List (BitVec 64)) (x : BitVec 64) => zoP_more l.length m x)
  have PA := Lib.hid (zoP_all l H5.out)
  obtain ⟨P, hP⟩ : ∃ P, zoP l.length = P := ⟨_, rfl⟩
  rw [hP] at PZ PM PA
  have HL0 := Lib.hid hL0
  clear hP hL0
  go_enter Tryd.func56, Tryd.ntmps56
  go_upto_region 4 with (refine make_law bytesOk rfl _ _ rfl w.heap.size .i64 .i64 4096 4096 4096 rfl rfl rfl rfl (by omega) (by omega) (Nat.le_refl _) ?_; intro w2 hown hgrow; have O := Lib.hid (show OwnN 4096 w2 w.heap.size w.heap.size 4096 (List.replicate 4096 0#8) by have h := hown; rw [by8_made] at h; exact h); have B2 := Lib.hid ((Below.refl w.heap.size w).grown hgrow (Nat.le_refl _) (by intro k hk; cases hk)); clear hown hgrow)
  obtain ⟨Z, hZ⟩ : ∃ Z, List.replicate 4096 0#8 = Z := ⟨_, rfl⟩
  rw [hZ] at O HL0
  clear hZ d1 d2
  go_upto_region 5 with (go_at_call 80; go_loud (refine (rput23 4096 w.heap.size 4096 w.heap.size Z 0 2 (BitVec.ofNat 64 l.length) w2 O.out (by decide) (by decide) (by decide)).mono ?_; rintro r w3 ⟨rfl, ho, hc⟩; rw [HL0.out, ← PZ.out] at ho; have O3 := Lib.hid ho; have B3 := Lib.hid (B2.out.trans (hc.below (fun q hq => by subst hq; exact Nat.le_refl _) B2.out.size)); clear ho hc))
  clear O B2 HL0 PZ HU
  go_upto_region 6 with (fail)
  go_loopw [5] (fun i wr => ∃ k : Nat, k ≤ l.length ∧ i = .int .i64 k ∧ OwnN 4096 wr w.heap.size w.heap.size 4096 (P (l.take k)) ∧ zoRis (l.take k) = true ∧ Below w.heap.size w wr) (fun i _ => l.length - (intOf i).toNat)
  case atStart => exact ⟨0, by omega, rfl, by rw [List.take_zero]; exact O3.out, (zoRis_one l).1, B3.out⟩
  case round =>
    obtain ⟨k, hk, rfl, ho, hz, hb⟩ := hrel
    have O6 := Lib.hid ho; have B6 := Lib.hid hb; have Z6 := Lib.hid hz; clear ho hb hz O3 B3
    by_cases hlt : k < l.length
    · obtain ⟨x, hx⟩ : ∃ x, l[k]? = some x := ⟨_, List.getElem?_eq_getElem hlt⟩
      have HX := Lib.hid hx
      obtain ⟨g, o, rfl, c0⟩ := (ROW.out.below B6.out).at (i := k) (v := .int .u64 (uv x)) (Lg.wd_one l k x hx)
      have HS := Lib.hid (show Lay.lay (P (l.take k)) (8 + 8 * k) (Wire.le x 8) = P (l.take (k + 1)) by
        obtain ⟨h5, rfl⟩ := List.getElem?_eq_some_iff.1 hx
        have h := PM.out (l.take k) l[k]
        rw [List.length_take, Nat.min_eq_left (by omega)] at h
        rw [h, List.take_succ_eq_append_getElem h5])
      clear hx
      have hk0 : (0 : Int) ≤ (k : Int) := by omega
      have hk1 : (k : Int) ≤ 511 := by have := H5.out; omega
      go_upto_region 8 with (fail)
      by_cases hz0 : k = 0
      · have HZ := Lib.hid (show zoRis (l.take (k + 1)) = true by rw [hz0]; exact (zoRis_one l).2)
        have d0 : decide ((0 : Int) < k) = false := decide_eq_false (by omega)
        have d0b : decide (0 < k) = false := decide_eq_false (by omega)
        clear hz0
        go_quiet (fail)
        obtain ⟨w5, hw5⟩ : ∃ x, x = wr.drewN nq := ⟨_, rfl⟩
        have O7 := Lib.hid (show OwnN 4096 w5 w.heap.size w.heap.size 4096 (P (l.take k)) by rw [hw5]; exact O6.out.below (gr_drewN wr _))
        have B7 := Lib.hid (show Below w.heap.size w w5 by rw [hw5]; exact gr_tr B6.out (gr_drewN wr _))
        have c7 : w5.cell? ⟨g, o + k, none⟩ = some (.int .u64 (uv x)) := by rw [hw5]; exact below_getU (gr_drewN wr _) c0
        rw [← hw5]
        clear c0 hw5
        go_upto_region 7 with (go_at_call 80; go_loud (refine (rput23 4096 w.heap.size 4096 w.heap.size (P (l.take k)) (8 + 8 * k) 8 x w5 O7.out (by decide) (by have := H5.out; omega) (by decide)).mono ?_; rintro r w8 ⟨rfl, ho, hc⟩; rw [HS.out] at ho; have O8 := Lib.hid ho; have B8 := Lib.hid (B7.out.trans (hc.below (fun q hq => by subst hq; exact Nat.le_refl _) B7.out.size)); clear ho hc))
        go_wp2
        go_roundw
        case rel => exact ⟨k + 1, by omega, by go_num, O8.out, HZ.out, B8.out⟩
        case measure => simp [intOf]; omega
      · obtain ⟨j, rfl⟩ : ∃ j, k = j + 1 := ⟨k - 1, by omega⟩
        clear hz0
        obtain ⟨p, hp⟩ : ∃ p, l[j]? = some p := ⟨_, List.getElem?_eq_getElem (by omega)⟩
        obtain ⟨g', o', e1, c1⟩ := (ROW.out.below B6.out).at (i := j) (v := .int .u64 (uv p)) (Lg.wd_one l j p hp)
        injection e1 with e1; injection e1 with e1 e2; subst e1; subst e2
        have hz := zoRis_take l j x p HX.out hp
        rw [Z6.out, Bool.true_and] at hz
        have HZ := Lib.hid hz
        clear hp hz
        have q0 : ∀ n (y : KeepT nowhere (wr.drewN n)), y.val.cell? ⟨g, o + (j + 1), none⟩ = some (.int .u64 (uv x)) := fun n y => y.cell (below_getU (gr_drewN wr n) c0) id
        have q1 : ∀ n (y : KeepT nowhere (wr.drewN n)), y.val.cell? ⟨g, o + j, none⟩ = some (.int .u64 (uv p)) := fun n y => y.cell (below_getU (gr_drewN wr n) c1) id
        by_cases hq : uv p < uv x
        · have d3 : decide (uv x ≤ uv p) = false := decide_eq_false (by omega)
          replace HZ := Lib.hid (HZ.out.trans (decide_eq_true hq))
          clear hq
          go_quiet (fail)
          clear c1 q0 q1
          obtain ⟨w5, hw5⟩ : ∃ x, x = wr.drewN nq := ⟨_, rfl⟩
          have O7 := Lib.hid (show OwnN 4096 w5 w.heap.size w.heap.size 4096 (P (l.take (j + 1))) by rw [hw5]; exact O6.out.below (gr_drewN wr _))
          have B7 := Lib.hid (show Below w.heap.size w w5 by rw [hw5]; exact gr_tr B6.out (gr_drewN wr _))
          have c7 : w5.cell? ⟨g, o + (j + 1), none⟩ = some (.int .u64 (uv x)) := by rw [hw5]; exact below_getU (gr_drewN wr _) c0
          rw [← hw5]
          clear c0 hw5
          go_upto_region 7 with (go_at_call 80; go_loud (refine (rput23 4096 w.heap.size 4096 w.heap.size (P (l.take (j + 1))) (8 + 8 * (j + 1)) 8 x w5 O7.out (by decide) (by have := H5.out; omega) (by decide)).mono ?_; rintro r w8 ⟨rfl, ho, hc⟩; rw [HS.out] at ho; have O8 := Lib.hid ho; have B8 := Lib.hid (B7.out.trans (hc.below (fun q hq => by subst hq; exact Nat.le_refl _) B7.out.size)); clear ho hc))
          go_wp2
          go_roundw
          case rel => exact ⟨j + 1 + 1, by omega, by go_num, O8.out, HZ.out, B8.out⟩
          case measure => simp [intOf]; omega
        · have d3 : decide (uv x ≤ uv p) = true := decide_eq_true (by omega)
          replace HZ := Lib.hid (HZ.out.trans (decide_eq_false hq))
          clear hq
          have ho : zoOkL l = false := by unfold zoOkL; rw [zoRis_false l (j + 1 + 1) HZ.out, Bool.and_false]
          have he := HE.out; have hB := HB.out
          rw [ho] at he hB
          simp only [Bool.false_eq_true, if_false] at he hB
          subst he hB
          clear ho
          go_quiet (fail)
          go_wp2
          go_ret2
          exact ⟨_, rfl, BytesV.nil _, gr_tr B6.out (gr_drewN _ _)⟩
    · obtain rfl : k = l.length := by omega
      have ho : zoOkL l = true := by have h := Z6.out; rw [List.take_length] at h; unfold zoOkL; rw [decide_eq_true H5.out, h]; rfl
      have he := HE.out; have hB := HB.out
      rw [ho] at he hB
      simp only [if_true] at he hB
      subst he
      have OB := Lib.hid (show OwnN 4096 wr w.heap.size w.heap.size 4096 B by rw [← hB, ← PA.out]; have h := O6.out; rwa [List.take_length] at h)
      clear hB ho
      go_wp2
      go_ret2
      exact ⟨_, rfl, OB.out.bytes, B6.out⟩
set_option maxRecDepth 20000 in
set_option maxHeartbeats 3200000 in
theorem rDecZ_at (l : List (BitVec 8)) (bv : Value) (w : World) (y : List (BitVec 64)) (e : Int) (hb : BytesV w bv l) (hl : l.length ≤ 5000) (hd : decP 4096 (fun l => zoL l (zoM l)) zoFine [] l = (y, e)) :
    Calls Tryd.prog 58 #[bv] w fun r w' => ∃ u, r = .returned (.tuple #[u, .int .i64 e]) ∧ SliceV w' (fun y : BitVec 64 => [Value.int .u64 (uv y)]) u y ∧ Below w.heap.size w w' := by
  have BV := Lib.hid hb
  have HL5 := Lib.hid hl
  unfold decP at hd
  by_cases p1 : l.length < 4096
  · rw [if_pos p1] at hd
    cases hd
    have HE := Lib.hid (show chkE l 4096 = 4 by unfold chkE; rw [if_pos p1])
    clear p1 hb
    go_enter Tryd.func58, Tryd.ntmps58
    go_wp2_with (go_at_call 105; go_loud (refine (check23 _ l 4096 4096 4 _ rfl BV.out (HE.out)).mono ?_; rintro r w1 ⟨rfl, rfl⟩))
    go_ret2
    exact ⟨_, rfl, SliceV.nil0 _, Below.refl _ _⟩
  rw [if_neg p1] at hd
  by_cases p2 : 4096 < l.length
  · rw [if_pos p2] at hd
    cases hd
    have HE := Lib.hid (show chkE l 4096 = 5 by unfold chkE; rw [if_neg p1, if_pos p2])
    clear p1 p2 hb
    go_enter Tryd.func58, Tryd.ntmps58
    go_wp2_with (go_at_call 105; go_loud (refine (check23 _ l 4096 4096 5 _ rfl BV.out (HE.out)).mono ?_; rintro r w1 ⟨rfl, rfl⟩))
    go_ret2
    exact ⟨_, rfl, SliceV.nil0 _, Below.refl _ _⟩
  rw [if_neg p2] at hd
  have HL := Lib.hid (show l.length = 4096 by omega)
  have HD := Lib.hid hd
  clear p1 p2 hd
  obtain ⟨n, hn⟩ : ∃ n, zoM l = n := ⟨_, rfl⟩
  have hn65 : n < 65536 := by rw [← hn]; exact num_lt l 0 2 (by rw [HL.out]; decide) (by decide)
  have HX2 := Lib.hid (show uv (num l 0 2) = n by rw [← hn]; rfl)
  have HN := Lib.hid hn
  obtain ⟨s2, hu2, hr2, -⟩ := BV.out.cut (P := Tryd.prog) (T := 22) Tryd.underlying22 bszU 2 8 (by omega) (by rw [HL.out]; decide)
  rw [List.drop_take, show (l.drop 2).take (8 - 2) = cut l 2 6 from rfl] at hu2
  have U2 := Lib.hid hu2
  obtain ⟨z1, hz1⟩ : ∃ z, allZ (cut l 2 6) = z := ⟨_, rfl⟩
  have Z1 := Lib.hid hz1
  have CL := Lib.hid (fun (m : Nat) (hm : m ≤ l.length) => BV.out.cutl (P := Tryd.prog) (T := 22) Tryd.underlying22 bszU m hm)
  obtain ⟨g, o, cv, rfl⟩ := BV.out.shapeAt (by rw [HL.out]; decide)
  have BV4 := Lib.hid (show BytesV w (.slice (some ⟨g, o, none⟩) 4096 cv) l by have := BV.out; rwa [HL.out] at this)
  rw [HL.out] at hr2 CL ⊢
  have R2 := Lib.hid (show ∀ w' : World, (Instr.slice 22 (.slice (some ⟨g, o, none⟩) 4096 cv) (some (.int .i64 2)) (some (.int .i64 8)) none).run Tryd.prog w' = .ok s2 w' from hr2)
  clear hn hr2 hu2 hz1 hb hl BV
  obtain ⟨X2, hX2⟩ : ∃ x, num l 0 2 = x := ⟨_, rfl⟩
  have NX2 := Lib.hid hX2
  rw [hX2] at HX2
  clear hX2
  go_enter Tryd.func58, Tryd.ntmps58
  go_upto_region 5 with (first
    | (go_at_call 105; go_loud (refine (check23 _ l 4096 4096 0 _ rfl BV4.out (by unfold chkE; rw [HL.out]; rfl)).mono ?_; rintro r w1 ⟨rfl, rfl⟩))
    | (go_at_call 106; go_loud (have hp := rget23 _ l 0 2 X2 w BV4.out HL5.out (by rw [HL.out]; decide) (by decide) (by decide) NX2.out; rw [HX2.out] at hp; refine hp.mono ?_; rintro r wz ⟨rfl, rfl⟩)))
  have r2 := R2.out
  go_cut [24] (fun s wx => s = .bool (!(decide (n ≤ 511) && z1)) ∧ w = wx)
  case first =>
    by_cases h5 : n ≤ 511
    · have d1 : decide ((511 : Int) < n) = false := decide_eq_false (by omega)
      have d2 : decide (511 < n) = false := decide_eq_false (by omega)
      have D3 := Lib.hid (show decide (n ≤ 511) = true from decide_eq_true h5)
      clear h5
      go_wp2_with (go_at_call 107; go_loud ((with_reducible refine (rZeros_at s2 (cut l 2 6) z1 _ U2.out Z1.out).mono ?_); rintro r wz ⟨rfl, rfl⟩))
      go_meet
      exact ⟨by rw [D3.out, Bool.true_and], rfl⟩
    · have d1 : decide ((511 : Int) < n) = true := decide_eq_true (by omega)
      have d2 : decide (511 < n) = true := decide_eq_true (by omega)
      have D3 := Lib.hid (show decide (n ≤ 511) = false from decide_eq_false h5)
      clear h5
      go_wp2
      go_meet
      exact ⟨by rw [D3.out]; rfl, rfl⟩
  case rest =>
    obtain ⟨rfl, rfl⟩ := hcut
    clear r2
    obtain ⟨b1, hb1⟩ : ∃ b, (decide (n ≤ 511) && z1) = b := ⟨_, rfl⟩
    have HB1 := Lib.hid hb1
    rw [hb1]
    clear hb1
    cases b1
    · have hf : zoFine l = false := by
        unfold zoFine
        rw [HN.out, Z1.out]
        have h := HB1.out
        cases hq : decide (n ≤ 511)
        · rfl
        · rw [hq, Bool.true_and] at h
          rw [h]; rfl
      have hd := HD.out
      rw [hf] at hd
      simp only [Bool.false_eq_true, if_false] at hd
      cases hd
      go_wp2
      go_ret2
      exact ⟨_, rfl, SliceV.nil0 _, Below.refl _ _⟩
    rw [Bool.not_true]
    have h5 : n ≤ 511 := by
      have h := HB1.out
      rw [Bool.and_eq_true] at h
      exact of_decide_eq_true h.1
    have H5 := Lib.hid h5
    have hz1 : z1 = true := by
      have h := HB1.out
      rw [Bool.and_eq_true] at h
      exact h.2
    have hfin : zoFine l = (zoRis (zoL l n) && allZ (l.drop (8 + 8 * n))) := by
      unfold zoFine
      rw [HN.out, Z1.out, hz1, decide_eq_true h5]; rfl
    have HF := Lib.hid hfin
    have HDN := Lib.hid (show (if zoFine l = true then (zoL l n, (0 : Int)) else ([], 6)) = (y, e) by rw [← HN.out]; exact HD.out)
    clear h5 hz1 hfin HB1 Z1 U2 HD
    go_upto_region 9 with (fail)
    go_loopw [6, 7] (fun u i wr => ∃ k : Nat, k ≤ n ∧ i = .int .i64 k ∧ wr.ownsRow w.heap.size 23 1 u k (wd (zoL l k)) ∧ zoRis (zoL l k) = true ∧ Below w.heap.size w wr) (fun _ i _ => n - (intOf i).toNat)
    case atStart => exact ⟨0, by omega, rfl, World.ownsRow_nil _ _ _ _, rfl, Below.refl _ _⟩
    case round =>
      obtain ⟨k, hk, rfl, ho, hz, hbw⟩ := hrel
      have O6 := Lib.hid ho; have B6 := Lib.hid hbw; have Z6 := Lib.hid hz; clear ho hbw hz
      have BB := Lib.hid (BV4.out.below B6.out)
      by_cases hlt : k < n
      · obtain ⟨x, hx⟩ : ∃ x, num l (8 + 8 * k) 8 = x := ⟨_, rfl⟩
        have HX := Lib.hid hx
        have ZM := Lib.hid (show zoL l (k + 1) = zoL l k ++ [x] by rw [zoL_more, hx])
        clear hx
        have hk0 : (0 : Int) ≤ (k : Int) := by omega
        have hk1 : (k : Int) ≤ 511 := by have := H5.out; omega
        obtain ⟨au, cu, hu⟩ := own_shape3 O6.out
        subst hu
        by_cases hz0 : k = 0
        · have HZ := Lib.hid (show zoRis (zoL l (k + 1)) = true by rw [hz0]; rfl)
          have d0 : decide ((0 : Int) < k) = false := decide_eq_false (by omega)
          have d0b : decide (0 < k) = false := decide_eq_false (by omega)
          clear hz0
          go_upto_region 10 with (first
            | (go_at_call 106; go_loud (refine (rget23 _ l (8 + 8 * k) 8 x wr BB.out HL5.out (by rw [HL.out]; have := H5.out; omega) (by decide) (by decide) HX.out).mono ?_; rintro r wz ⟨rfl, rfl⟩))
            | (at_builtin; refine app_word rfl (.tmp 46) (.tmp 48) rfl _ w.heap.size k (zoL l k) rfl (own_below O6.out (gr_alloc wr _)) (Nat.le_trans B6.out.size (gr_alloc wr _).size) wr.heap.size x rfl (heap_alloc_new wr _) (by have := H5.out; omega) ?_; intro v2 w4 ho hg hv2; have O7 := Lib.hid ho; have B7 := Lib.hid ((gr_tr B6.out (gr_alloc wr _)).grown hg (Nat.le_trans B6.out.size (gr_alloc wr _).size) (fun q hq => ((own_below O6.out (gr_alloc wr (.cells #[.int .u64 (uv x)] 23))).lt q hq).1)); clear ho hg hv2))
          go_wp2
          go_roundw
          case rel => exact ⟨k + 1, by omega, by go_num, by rw [ZM.out]; exact O7.out, HZ.out, B7.out⟩
          case measure => simp [intOf]; omega
        · obtain ⟨j, rfl⟩ : ∃ j, k = j + 1 := ⟨k - 1, by omega⟩
          clear hz0
          obtain ⟨p, hp⟩ : ∃ p, num l (8 + 8 * j) 8 = p := ⟨_, rfl⟩
          have hpg : (zoL l (j + 1))[j]? = some p := by rw [zoL_get l (j + 1) j (by omega), hp]
          obtain ⟨ga, ca, hga, -, -, -⟩ := own_addr3 O6.out (by omega)
          injection hga with hga1 hga2 hga3
          subst hga1; subst hga3
          have c1 : wr.cell? ⟨ga, j, none⟩ = some (.int .u64 (uv p)) := by
            rw [World.ownsRow.cellAt O6.out j (by omega)]
            exact Lg.wd_one _ j p hpg
          have e1 : zoRis ((zoL l (j + 2)).take (j + 2)) = (zoRis ((zoL l (j + 2)).take (j + 1)) && decide (uv p < uv x)) := zoRis_take (zoL l (j + 2)) j x p (by rw [zoL_get l (j + 2) (j + 1) (by omega), HX.out]) (by rw [zoL_get l (j + 2) j (by omega), hp])
          rw [zoL_take l _ _ (Nat.le_refl _), zoL_take l _ _ (by omega), Z6.out, Bool.true_and] at e1
          have HZ := Lib.hid e1
          clear e1 hp hpg
          by_cases hq : uv p < uv x
          · have d3 : decide (uv x ≤ uv p) = false := decide_eq_false (by omega)
            replace HZ := Lib.hid (HZ.out.trans (decide_eq_true hq))
            clear hq
            go_upto_region 10 with (first
              | (go_at_call 106; go_loud (refine (rget23 _ l (8 + 8 * (j + 1)) 8 x wr BB.out HL5.out (by rw [HL.out]; have := H5.out; omega) (by decide) (by decide) HX.out).mono ?_; rintro r wz ⟨rfl, rfl⟩))
              | (at_builtin; refine app_word rfl (.tmp 46) (.tmp 48) rfl _ w.heap.size (j + 1) (zoL l (j + 1)) rfl (own_below O6.out (gr_alloc wr _)) (Nat.le_trans B6.out.size (gr_alloc wr _).size) wr.heap.size x rfl (heap_alloc_new wr _) (by have := H5.out; omega) ?_; intro v2 w4 ho hg hv2; have O7 := Lib.hid ho; have B7 := Lib.hid ((gr_tr B6.out (gr_alloc wr _)).grown hg (Nat.le_trans B6.out.size (gr_alloc wr _).size) (fun q hq => ((own_below O6.out (gr_alloc wr (.cells #[.int .u64 (uv x)] 23))).lt q hq).1)); clear ho hg hv2))
            go_wp2
            go_roundw
            case rel => exact ⟨j + 1 + 1, by omega, by go_num, by rw [ZM.out]; exact O7.out, HZ.out, B7.out⟩
            case measure => simp [intOf]; omega
          · have d3 : decide (uv x ≤ uv p) = true := decide_eq_true (by omega)
            replace HZ := Lib.hid (HZ.out.trans (decide_eq_false hq))
            clear hq
            have hf : zoFine l = false := by
              rw [HF.out, zoRis_false (zoL l n) (j + 1 + 1) (by rw [zoL_take l n (j + 1 + 1) (by omega)]; exact HZ.out), Bool.false_and]
            have hd := HDN.out
            rw [hf] at hd
            simp only [Bool.false_eq_true, if_false] at hd
            cases hd
            clear hf
            go_wp2_with (go_at_call 106; go_loud (refine (rget23 _ l (8 + 8 * (j + 1)) 8 x wr BB.out HL5.out (by rw [HL.out]; have := H5.out; omega) (by decide) (by decide) HX.out).mono ?_; rintro r wz ⟨rfl, rfl⟩))
            go_ret2
            exact ⟨_, rfl, SliceV.nil0 _, B6.out⟩
      · obtain rfl : k = n := by omega
        obtain ⟨s9, hu9, hr9⟩ := CL.out (8 + 8 * k) (by have := H5.out; omega)
        rw [show ((8 + 8 * k : Nat) : Int) = 8 + 8 * (k : Int) by omega] at hr9
        have U9 := Lib.hid hu9
        obtain ⟨z2, hz2⟩ : ∃ z, allZ (l.drop (8 + 8 * k)) = z := ⟨_, rfl⟩
        have Z2 := Lib.hid hz2
        have hd := HDN.out
        rw [HF.out, Z6.out, hz2, Bool.true_and] at hd
        have HD9 := Lib.hid hd
        clear hu9 hz2 hd
        cases z2
        · have hd := HD9.out
          simp only [Bool.false_eq_true, if_false] at hd
          cases hd
          go_wp2_with (go_at_call 107; go_loud ((with_reducible refine (rZeros_at s9 (l.drop (8 + 8 * k)) false _ (U9.out.below B6.out) Z2.out).mono ?_); rintro r wz ⟨rfl, rfl⟩))
          go_ret2
          exact ⟨_, rfl, SliceV.nil0 _, B6.out⟩
        · have hd := HD9.out
          simp only [if_true] at hd
          cases hd
          have SV := Lib.hid (show SliceV wr (fun y : BitVec 64 => [Value.int .u64 (uv y)]) u6 (zoL l k) from SliceV.of_wd (by rw [zoL_len]; exact O6.out))
          go_wp2_with (go_at_call 107; go_loud ((with_reducible refine (rZeros_at s9 (l.drop (8 + 8 * k)) true _ (U9.out.below B6.out) Z2.out).mono ?_); rintro r wz ⟨rfl, rfl⟩))
          go_ret2
          exact ⟨_, rfl, SV.out, B6.out⟩
end Go.Proofs.YthnnopjakpjoeaaDoor
namespace Go.Proofs.YthnnopjakpjoeaaDoor
open Go.RowKit Go.ChangeShapes Go.WideShapes Go.ChangeAt
set_option linter.unusedVariables false
set_option linter.unusedSimpArgs false
theorem own_shapeR {w : World} {base : Nat} {e : TypeId} {size : Nat} {v : Value} {n : Nat} {xs : List Value} (h : w.ownsRow base e size v n xs) : ∃ a c, v = .slice a n c := by
  obtain ⟨h1, h2⟩ := h
  rcases h2 with ⟨rfl, rfl⟩ | ⟨g, cap, cur, hv, _⟩
  · exact ⟨_, _, rfl⟩
  · exact ⟨_, _, hv⟩
theorem own_addrR {w : World} {base n : Nat} {e : TypeId} {v : Value} {xs : List Value} (h : w.ownsRow base e 1 v n xs) (hn : 0 < n) : ∃ g c, v = .slice (some ⟨g, 0, none⟩) n c ∧ base ≤ g ∧ n ≤ c ∧ c ≤ 9223372036854775807 := by
  obtain ⟨h1, h2⟩ := h
  rcases h2 with ⟨_, h0⟩ | ⟨g, cap, cur, rfl, hg, _, r1, r2, _⟩
  · omega
  · exact ⟨g, cap, rfl, hg, r1, r2⟩
theorem infoZ : ∃ i, Tryd.prog.info? 5 = some i ∧ i.zero = some (.int .u8 0) ∧ i.size = 1 ∧ i.bytes = 1 := info_parts (by kernel_rfl)
theorem zeros_list (n : Nat) : (Builtin.zeroCells (Value.int .u8 0).cells n).toList = by8 (List.replicate n 0#8) := by8_made n
theorem zeros_arr (n : Nat) : Builtin.zeroCells (Value.int .u8 0).cells n = (by8 (List.replicate n 0#8)).toArray := by
  apply Array.ext'; rw [zeros_list]
theorem run_room_zeros (w : World) (ty : TypeId) (g n cap : Nat) (cur : Array Value) (hg : w.heap[g]? = some (.cells cur 5 (0, 0))) (k : Nat) (h0 : 0 < k) (h48 : k ≤ 140737488355328) (hroom : n + k ≤ cap) (hfit : n + k ≤ cur.size) :
    (Builtin.append_ #[22, 3] ty #[.slice (some ⟨g, 0, none⟩) n cap, .int .i64 k]).run Tryd.prog w =
      .ok (.slice (some ⟨g, 0, none⟩) (n + k) cap) (w.setRow g (cur.toList.take n ++ by8 (List.replicate k 0#8) ++ cur.toList.drop (n + k)).toArray) := by
  obtain ⟨i, hi, hz, hs, hb⟩ := infoZ
  have hl : (by8 (List.replicate k 0#8)).length = k := by simp
  have hst := run_storeCells_at Tryd.prog g n 5 (by8 (List.replicate k 0#8)) 0 cur w hg (by rw [hl]; simpa using hfit) (by8_one _)
  simp only [Nat.add_zero, hl] at hst
  have hn : k ≠ 0 := by omega
  have hw : IntKind.i64.wrap (k : Int) = k := by rw [IntKind.wrap_i64]; omega
  have h48i : ¬ (281474976710656 < (k : Int) * (i.bytes : Int)) := by rw [hb]; omega
  have hneg : ¬ ((k : Int) < 0) := by omega
  have hzl := zeros_list k
  simp only [Value.cells] at hzl
  have hza := zeros_arr k
  simp only [Value.cells] at hza
  simp [Builtin.append_, run_underlying Tryd.underlying22, run_underlying Tryd.underlying3, sizeOf, typeInfo, zeroValue, hi, hz, hs, asInt, asIntOf, hw, hn, hneg, hroom, h48i, Addr.add_lit, Value.cells, hzl, hst]
theorem run_own_zeros (w : World) (ty : TypeId) (base : Nat) (v : Value) (l : List (BitVec 8)) (hown : w.ownsRow base 5 1 v l.length (by8 l)) (hbase : base ≤ w.heap.size) (k : Nat) (h0 : 0 < k) (h48 : l.length + k ≤ 140737488355328) :
    ∃ v' w', (Builtin.append_ #[22, 3] ty #[v, .int .i64 k]).run Tryd.prog w = .ok v' w' ∧ w'.ownsRow base 5 1 v' (l ++ List.replicate k 0#8).length (by8 (l ++ List.replicate k 0#8)) ∧ w.grownBy w' v.ownBlock := by
  have hn : (l ++ List.replicate k 0#8).length = l.length + k := by simp
  rw [hn, by8_append]
  have hlen : (by8 l ++ by8 (List.replicate k 0#8)).length = (l.length + k) * 1 := by simp
  rcases hown.2 with ⟨rfl, h⟩ | ⟨g, cap, cur, rfl, hbg, hg, hnc, hcm, hcs, htake⟩
  · have hl0 : l = [] := List.length_eq_zero_iff.1 h
    subst hl0
    obtain ⟨i, hi, hz, hs, hb⟩ := infoZ
    have hr := Lib.run_append_nil_zeros (P := Tryd.prog) w 22 3 ty 5 i (.int .u8 0) .i64 .i64 Tryd.underlying22 Tryd.underlying3 hi hz k h0 (by omega) (by simp at h48; omega) (by rw [hb]; simp at h48; omega)
    have hge := grownCap_ge w k 0 5
    have hle := grownCap_le_maxLen w k 0 5 (by unfold maxLen; simp at h48; omega)
    have e0 : ([] : List (BitVec 8)).length + k = k := by simp
    rw [e0]
    refine ⟨_, _, hr, ⟨by simp, .inr ⟨w.heap.size, _, _, rfl, hbase, heap_alloc_new w.drew _, hge, hle, ?_, ?_⟩⟩, ⟨rfl, rfl, rfl, by simp, fun j hj _ => heap_alloc_old w.drew _ hj⟩⟩
    · simp only [Array.size_append, size_zeroCells, Value.cells]
      simp
      omega
    · simp only [Array.toList_append, zeros_list]
      rw [show k * 1 = (by8 (List.replicate k 0#8)).length by simp]
      exact List.take_left
  · simp only [Nat.mul_one, by8_length] at hcs htake
    by_cases hroom : l.length + k ≤ cap
    · have hr := run_room_zeros w ty g l.length cap cur hg k h0 (by omega) hroom (by omega)
      refine ⟨_, _, hr, ⟨hlen, .inr ⟨g, cap, _, rfl, hbg, setRow_heap w g cur _ _ _ hg, hroom, hcm, ?_, ?_⟩⟩, ⟨rfl, rfl, rfl, by simp, fun j _ hj => setRow_other w g j _ (fun e => hj (by simp [Value.ownBlock, e]))⟩⟩
      · simp only [List.size_toArray, List.length_append, List.length_take, List.length_drop, Array.length_toList, by8_length, List.length_replicate]
        omega
      · simp only [htake]
        rw [← hlen]
        exact List.take_left
    · obtain ⟨i, hi, hz, hs, hb⟩ := infoZ
      have holds : ∀ j u, (by8 l)[j]? = some u → w.drew.cell? ((⟨g, 0, none⟩ : Addr).add j) = some u := by
        have := hown.cells (g := g) rfl
        simpa using this
      have hold := run_firstCells_some (P := Tryd.prog) w.drew 1 l.length ⟨g, 0, none⟩ l.length cap (by8 l) (by simp) holds
      have hr := Lib.run_append_grow_zeros (P := Tryd.prog) w 22 3 ty 5 i (.int .u8 0) .i64 .i64 Tryd.underlying22 Tryd.underlying3 hi hz (some ⟨g, 0, none⟩) l.length cap (by8 l) (by rw [hs]; exact hold) k h0 (by omega) (by omega) (by omega) (by rw [hb]; omega) (growslice_fits (by omega) (by rw [hb]; omega))
      have hge := grownCap_ge w (l.length + k) cap 5
      have hle := grownCap_le_maxLen w (l.length + k) cap 5 (by unfold maxLen; omega)
      refine ⟨_, _, hr, ⟨hlen, .inr ⟨w.heap.size, _, _, rfl, hbase, heap_alloc_new w.drew _, hge, hle, ?_, ?_⟩⟩, ⟨rfl, rfl, rfl, by simp, fun j hj _ => heap_alloc_old w.drew _ hj⟩⟩
      · simp only [Array.size_append, List.size_toArray, size_zeroCells, by8_length, Value.cells]
        simp
        omega
      · simp only [Array.toList_append, zeros_list]
        rw [← hlen]
        exact List.take_left
/-- 'append(own, make([]byte, k)...)'. -/
theorem app_zeros {ops : Array Oper} {rest : List Oper} {o : Oper} {a : Act} {Q : Exit → Act → World → Prop} {W : World} (hgd : o.guard = none) (s x : Operand) (ho : o.op = .call { callee := .builtin .append, args := #[s, x], argTypes := #[22, 3] })
    (u : Value) (base : Nat) (l : List (BitVec 8)) (hs : a.eval s = u) (hown : W.ownsRow base 5 1 u l.length (by8 l)) (hbase : base ≤ W.heap.size)
    (k : Nat) (hx : a.eval x = .int .i64 k) (h0 : 0 < k) (h48 : l.length + k ≤ 140737488355328)
    (h : ∀ v' w', w'.ownsRow base 5 1 v' (l ++ List.replicate k 0#8).length (by8 (l ++ List.replicate k 0#8)) → Below base W w' → wpList Tryd.prog ops Q rest (a.put o.dst v') w') : wpList Tryd.prog ops Q (o :: rest) a W := by
  obtain ⟨v', w', hr, h1, h2⟩ := run_own_zeros W o.type base u l hown hbase k h0 h48
  refine wpList_plain hgd fun K hK => ?_
  exact Lib.wp_append_run W s x _ _ ho _ _ hs hx v' w' hr (hK _ _ (h v' w' h1 ((Below.refl base W).grown h2 hbase (fun j hj => (hown.lt j hj).1))))

theorem run_own_zeros0 (w : World) (ty : TypeId) (a : Option Addr) (n c : Nat) (hn : n ≤ c) :
    (Builtin.append_ #[22, 3] ty #[.slice a n c, .int .i64 0]).run Tryd.prog w = .ok (.slice a n c) w := by
  obtain ⟨i, hi, hz, hs, hb⟩ := infoZ
  have hw : IntKind.i64.wrap (0 : Int) = 0 := by rw [IntKind.wrap_i64]; rfl
  cases a <;> simp [Builtin.append_, run_underlying Tryd.underlying22, run_underlying Tryd.underlying3, sizeOf, typeInfo, zeroValue, hi, hz, hs, asInt, asIntOf, hw, hn, storeCells, hb]
theorem app_zeros0 {ops : Array Oper} {rest : List Oper} {o : Oper} {a : Act} {Q : Exit → Act → World → Prop} {W : World} (hgd : o.guard = none) (s x : Operand) (ho : o.op = .call { callee := .builtin .append, args := #[s, x], argTypes := #[22, 3] })
    (ad : Option Addr) (n c : Nat) (hs : a.eval s = .slice ad n c) (hn : n ≤ c) (hx : a.eval x = .int .i64 0)
    (h : wpList Tryd.prog ops Q rest (a.put o.dst (.slice ad n c)) W) : wpList Tryd.prog ops Q (o :: rest) a W := by
  refine wpList_plain hgd fun K hK => ?_
  exact Lib.wp_append_run W s x _ _ ho _ _ hs hx _ _ (run_own_zeros0 W o.type ad n c hn) (hK _ _ h)
theorem BytesV.takeN {w : World} {a : Option Addr} {n c : Nat} {l : List (BitVec 8)} (h : BytesV w (.slice a n c) l) (k : Nat) (hk : k ≤ l.length) : BytesV w (.slice a k c) (l.take k) := by
  obtain ⟨a', c', e, h0, h1, h2, h3⟩ := h
  injection e with e1 e2 e3
  subst e1 e3
  have hl : (l.take k).length = k := by rw [List.length_take]; omega
  refine ⟨a, c, by rw [hl], fun ha => h0 ha, by rw [hl]; omega, h2, ?_⟩
  have := h3.take k
  unfold by8 at this ⊢
  rw [List.map_take]; exact this
theorem spoil_cut (n : Nat) (more : Int) (hn : n ≤ 1000000) (hm : -9223372036854775808 ≤ more ∧ more ≤ 9223372036854775807) (h : more < 0) :
    ∃ q : Nat, max 0 (wrap64 ((n : Int) - min (wrap64 (-more)) 10)) = (q : Int) ∧ q ≤ n := by
  have e1 : wrap64 (-more) = if more = -9223372036854775808 then -9223372036854775808 else -more := by
    split
    · rename_i e; subst e; unfold wrap64; omega
    · exact IntWalk.wrap64_in _ (by omega)
  rw [e1]
  split
  · have e2 : wrap64 ((n : Int) - min (-9223372036854775808) 10) = (n : Int) - 9223372036854775808 := by
      have : (n : Int) - min (-9223372036854775808) 10 = n + 9223372036854775808 := by omega
      rw [this]; unfold wrap64; omega
    exact ⟨0, by rw [e2]; omega, by omega⟩
  · rw [IntWalk.wrap64_in _ (by omega)]
    exact ⟨(max 0 ((n : Int) - min (-more) 10)).toNat, by omega, by omega⟩
set_option maxHeartbeats 1600000 in
set_option maxRecDepth 20000 in
theorem spoil_any (v : Value) (l : List (BitVec 8)) (at' more : Int) (by' : BitVec 8) (w : World) (hv : BytesV w v l) (hl : l.length ≤ 1000000) (ha : -9223372036854775808 ≤ at' ∧ at' ≤ 9223372036854775807) (hm : -9223372036854775808 ≤ more ∧ more ≤ 9223372036854775807) :
    Calls Tryd.prog 41 #[v, .agg #[.int .i64 at', .int .u8 (uv by'), .int .i64 more]] w fun e w' => ∃ u m, e = .returned u ∧ BytesV w' u m ∧ m.length ≤ l.length + 10 ∧ Below w.heap.size w w' := by
  have V := Lib.hid hv
  clear hv
  go_enter Tryd.func41, Tryd.ntmps41
  go_upto_region 2 with (go_at_call 18; go_loud (refine (Own_any v l _ (V.out.below (gr_alloc w _)) (by omega)).mono ?_; rintro r w1 ⟨u, rfl, ho, hb⟩; obtain ⟨ad, c, rfl⟩ := own_shapeR ho; have O := Lib.hid ho; have B := Lib.hid hb; clear ho hb))
  have c0 : w1.cell? ⟨w.heap.size, 0, none⟩ = some (.int .i64 at') := (B.out.cell (p := ⟨w.heap.size, 0, none⟩) (by simp)).trans (cell_of_row _ _ 0 _ _ _ (heap_alloc_new w _))
  have c1 : w1.cell? ⟨w.heap.size, 1, none⟩ = some (.int .u8 (uv by')) := (B.out.cell (p := ⟨w.heap.size, 1, none⟩) (by simp)).trans (cell_of_row _ _ 1 _ _ _ (heap_alloc_new w _))
  have c2 : w1.cell? ⟨w.heap.size, 2, none⟩ = some (.int .i64 more) := (B.out.cell (p := ⟨w.heap.size, 2, none⟩) (by simp)).trans (cell_of_row _ _ 2 _ _ _ (heap_alloc_new w _))
  go_cut [17] (fun s wx => ∃ b : Bool, s = .bool b ∧ (b = true → 0 ≤ at' ∧ at' < l.length) ∧ wx = w1)
  case first =>
    by_cases h1 : 0 ≤ at'
    · by_cases h2 : at' < l.length
      · go_wp2
        go_meet
        exact ⟨true, rfl, fun _ => ⟨h1, h2⟩, rfl⟩
      · go_wp2
        go_meet
        exact ⟨false, rfl, fun h => (by cases h), rfl⟩
    · go_wp2
      go_meet
      exact ⟨false, rfl, fun h => (by cases h), rfl⟩
  case rest =>
    obtain ⟨b, rfl, hin, rfl⟩ := hcut
    obtain ⟨w2, hx2⟩ : ∃ x, x = wc := ⟨_, rfl⟩
    subst hx2
    have HIN := Lib.hid hin; clear hin
    go_upto_if 17 with (fail)
    go_cut [17] (fun s wx => ∃ m : List (BitVec 8), m.length = l.length ∧ wx.ownsRow (w.alloc (.cells #[.int .i64 at', .int .u8 (uv by'), .int .i64 more] 90)).heap.size 5 1 (.slice ad l.length c) l.length (by8 m) ∧ Below (w.alloc (.cells #[.int .i64 at', .int .u8 (uv by'), .int .i64 more] 90)).heap.size (w.alloc (.cells #[.int .i64 at', .int .u8 (uv by'), .int .i64 more] 90)) wx)
    case first =>
      cases b
      · go_wp2
        go_meet
        exact ⟨l, rfl, O.out, B.out⟩
      · obtain ⟨p1, p2⟩ := HIN.out rfl
        obtain ⟨g, c', e0, hg1, hg2, hg3⟩ := own_addrR O.out (by omega)
        injection e0 with e1 e2 e3
        subst e1 e3
        obtain ⟨k, rfl⟩ := Int.eq_ofNat_of_zero_le p1
        have hk : k < l.length := by omega
        have gx : w2.cell? ⟨g, k, none⟩ = some (.int .u8 (uv l[k])) := by
          rw [World.ownsRow.cellAt O.out k (by omega), by8_get, List.getElem?_eq_getElem hk]; rfl
        have fx := World.ownsRow.frozenAt O.out k
        go_wp2
        go_meet
        refine ⟨l.set k by', by rw [List.length_set], ?_, ?_⟩
        · rw [← by8_setL]
          have := (World.ownsRow.stored O.out k (.int .u8 (uv by'))).1
          exact this
        · exact (Chg.setCell (B := fun b => b = g) (p := ⟨g, k, none⟩) _ rfl _).fresh B.out (fun k hk => by subst hk; exact hg1)
    case rest =>
      obtain ⟨m, hm2, ho2, hb2⟩ := hcut
      obtain ⟨w3, hx3⟩ : ∃ x, x = wc := ⟨_, rfl⟩
      subst hx3
      have O2 := Lib.hid ho2; have B2 := Lib.hid hb2; have HM2 := Lib.hid hm2
      clear ho2 hb2 hm2 O B
      have c2' : w3.cell? ⟨w.heap.size, 2, none⟩ = some (.int .i64 more) := (B2.out.cell (p := ⟨w.heap.size, 2, none⟩) (by simp)).trans (cell_of_row _ _ 2 _ _ _ (heap_alloc_new w _))
      have B3 := Lib.hid (gr_tr (gr_alloc w _) B2.out)
      have V2 := Lib.hid (BytesV.of_own (l := m) (by rw [HM2.out]; exact O2.out))
      clear c0 c1 c2
      by_cases h1 : more < 0
      · obtain ⟨q, hq, hql⟩ := spoil_cut l.length more (by omega) hm h1
        have hcm : m.length ≤ c := by obtain ⟨_, _, e, _, h, _⟩ := V2.out; injection e with _ _ e; rw [e]; exact h
        have hqc : q ≤ c := by have := HM2.out; omega
        have TK := Lib.hid (V2.out.takeN q (by rw [HM2.out]; exact hql))
        clear hcm
        go_wp2
        go_ret
        exact ⟨_, _, rfl, TK.out, by rw [List.length_take]; have := HM2.out; omega, B3.out⟩
      · by_cases h2 : more = 0
        · subst h2
          go_wp2_with (at_builtin; refine app_zeros0 rfl (.tmp 37) (.tmp 40) rfl ad l.length c rfl (by obtain ⟨_, _, e, _, h, _⟩ := V2.out; injection e with _ _ e; rw [← HM2.out, e]; exact h) rfl ?_)
          go_ret
          exact ⟨_, rfl, m, by have := V2.out; exact this, by have := HM2.out; omega, B3.out⟩
        · obtain ⟨q, hq⟩ : ∃ q : Nat, (q : Int) = min more 10 := ⟨(min more 10).toNat, by omega⟩
          go_wp2_with (at_builtin; refine app_zeros rfl (.tmp 37) (.tmp 40) rfl _ _ m rfl (by rw [HM2.out]; exact O2.out) B2.out.size q (by rw [hq]; rfl) (by omega) (by have := HM2.out; omega) ?_; intro v1 w5 ho hb; have O1 := Lib.hid ho; have B5 := Lib.hid hb; clear ho hb)
          go_ret
          exact ⟨_, rfl, _, BytesV.of_own O1.out, by rw [List.length_append, List.length_replicate]; have := HM2.out; omega, (gr_alloc w _).trans ((B2.out.trans B5.out).mono (gr_alloc w _).size)⟩
end Go.Proofs.YthnnopjakpjoeaaDoor
