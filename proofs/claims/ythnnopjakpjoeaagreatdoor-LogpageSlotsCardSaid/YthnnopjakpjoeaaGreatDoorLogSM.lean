/- Merged: LogU, LogK, LogSl, RefPlain, LogSr, LogSd. -/
import Derived.Test.YthnnopjakpjoeaaGreatDoorLogB
import Derived.Test.YthnnopjakpjoeaaGreatDoorLogR
import Derived.Test.YthnnopjakpjoeaaGreatDoorLogE
import Derived.Test.YthnnopjakpjoeaaGreatDoorLogN
import Derived.Test.YthnnopjakpjoeaaGreatDoorRows2
import Derived.Test.YthnnopjakpjoeaaGreatDoorWireMath2
import Derived.Test.YthnnopjakpjoeaaGreatDoorBase
import Derived.Deep.DeepCutAuto
import Derived.Test.YthnnopjakpjoeaaGreatDoorPlan2
namespace Go.Proofs.YthnnopjakpjoeaaGreatDoor
open Go.RowKit Lg
set_option linter.unusedVariables false
set_option linter.unusedSimpArgs false
theorem below_getU {w w' : World} {b o : Nat} {v : Value} (h : Below w.heap.size w w') (hc : w.cell? ⟨b, o, none⟩ = some v) : w'.cell? ⟨b, o, none⟩ = some v := (Chg.of_below (B := fun _ => False) h).cell hc id
theorem SliceV.nil0 {α : Type} {f : α → List Value} (w : World) : SliceV w f (.slice none 0 0) [] := ⟨none, 0, rfl, fun _ => rfl, by simp, by simp, .inl rfl⟩
theorem SliceV.of_wd {w : World} {base : Nat} {e : TypeId} {v : Value} {l : List (BitVec 64)} (h : w.ownsRow base e 1 v l.length (wd l)) : SliceV w (fun y : BitVec 64 => [Value.int .u64 (uv y)]) v l := by
  obtain ⟨h1, h2⟩ := h
  rcases h2 with ⟨e1, e2⟩ | ⟨g, cap, cur, hv, hg, hh, r1, r2, r3, r4⟩
  · have : l = [] := List.length_eq_zero_iff.1 e2
    subst this; subst e1; exact SliceV.nil0 w
  · subst hv
    exact ⟨_, cap, rfl, (by simp), r1, r2, by rw [flat1]; exact Row.of_own ⟨h1, .inr ⟨g, cap, cur, rfl, hg, hh, r1, r2, r3, r4⟩⟩⟩
theorem SliceV.of_w32 {w : World} {base : Nat} {e : TypeId} {v : Value} {l : List (BitVec 32)} (h : w.ownsRow base e 1 v l.length (l.map fun y => Value.int .u32 (uv y))) : SliceV w (fun y : BitVec 32 => [Value.int .u32 (uv y)]) v l := by
  obtain ⟨h1, h2⟩ := h
  rcases h2 with ⟨e1, e2⟩ | ⟨g, cap, cur, hv, hg, hh, r1, r2, r3, r4⟩
  · have : l = [] := List.length_eq_zero_iff.1 e2
    subst this; subst e1; exact SliceV.nil0 w
  · subst hv
    exact ⟨_, cap, rfl, (by simp), r1, r2, by rw [flat1]; exact Row.of_own ⟨h1, .inr ⟨g, cap, cur, rfl, hg, hh, r1, r2, r3, r4⟩⟩⟩
namespace Lg
theorem risB_snoc {n : Nat} (a : BitVec n) (l : List (BitVec n)) (x : BitVec n) : risB a (l ++ [x]) = (risB a l && decide (uv (l.getLastD a) < uv x)) := by
  induction l generalizing a with
  | nil => rw [List.nil_append]; unfold risB risB; rw [Bool.and_true, Bool.true_and]; rfl
  | cons y l ih =>
    have e : ∀ m : List (BitVec n), risB a (y :: m) = (decide (uv a < uv y) && risB y m) := fun m => rfl
    rw [List.cons_append, e, e, ih, Bool.and_assoc, List.getLastD_cons]
theorem risB_take {n : Nat} (a : BitVec n) (l : List (BitVec n)) (k : Nat) (x p : BitVec n) (hx : l[k]? = some x) (hp : (if k = 0 then some a else l[k - 1]?) = some p) : risB a (l.take (k + 1)) = (risB a (l.take k) && decide (uv p < uv x)) := by
  obtain ⟨hk, rfl⟩ := List.getElem?_eq_some_iff.1 hx
  rw [List.take_succ_eq_append_getElem hk, risB_snoc]
  have e : (l.take k).getLastD a = p := by
    cases k with
    | zero => rw [if_pos rfl] at hp; injection hp
    | succ k =>
      rw [if_neg (by omega), Nat.add_sub_cancel] at hp
      rw [List.getLastD_eq_getLast?, List.getLast?_eq_getElem?, List.length_take, Nat.min_eq_left (by omega), Nat.add_sub_cancel, List.getElem?_take_of_lt (by omega), hp]
      rfl
  rw [e]
theorem risB_false {n : Nat} (a : BitVec n) (l : List (BitVec n)) (k : Nat) (h : risB a (l.take k) = false) : risB a l = false := by
  induction l generalizing a k with
  | nil => rw [List.take_nil] at h; exact h
  | cons y l ih =>
    cases k with
    | zero => exact absurd h (by unfold risB; simp)
    | succ k =>
      rw [List.take_succ_cons] at h
      unfold risB at h ⊢
      cases hd : decide (uv a < uv y)
      · rfl
      · rw [hd, Bool.true_and] at h
        rw [Bool.true_and]; exact ih y k h
theorem zoRis_one (l : List (BitVec 64)) : zoRis (l.take 0) = true ∧ zoRis (l.take 1) = true := by
  cases l <;> exact ⟨rfl, rfl⟩
theorem zoRis_take (l : List (BitVec 64)) (k : Nat) (x p : BitVec 64) (hx : l[k + 1]? = some x) (hp : l[k]? = some p) : zoRis (l.take (k + 2)) = (zoRis (l.take (k + 1)) && decide (uv p < uv x)) := by
  cases l with
  | nil => exact absurd hx (by simp)
  | cons y l =>
    rw [List.getElem?_cons_succ] at hx
    show risB y (l.take (k + 1)) = (risB y (l.take k) && _)
    refine risB_take y l k x p hx ?_
    cases k with
    | zero => rw [if_pos rfl]; exact hp
    | succ k => rw [if_neg (by omega)]; exact hp
theorem zoRis_false (l : List (BitVec 64)) (k : Nat) (h : zoRis (l.take k) = false) : zoRis l = false := by
  cases l with
  | nil => rw [List.take_nil] at h; exact h
  | cons y l =>
    cases k with
    | zero => exact absurd h (by rw [List.take_zero]; unfold zoRis; simp)
    | succ k => exact risB_false y l k h
theorem get_consN (x : BitVec 8) (r : List (BitVec 8)) (h : r.length ≤ 7) : (Wire.get (x :: r)).toNat = x.toNat + 256 * (Wire.get r).toNat := by
  have hr : (Wire.get r).toNat < 2 ^ 56 := by
    have h1 := congrArg BitVec.toNat (Wire.get_high r (by omega))
    rw [BitVec.toNat_ushiftRight, Nat.shiftRight_eq_div_pow] at h1
    have h2 : (Wire.get r).toNat < 2 ^ (8 * r.length) := by
      rcases Nat.lt_or_ge (Wire.get r).toNat (2 ^ (8 * r.length)) with h3 | h3
      · exact h3
      · have := Nat.div_pos h3 (Nat.two_pow_pos _)
        simp at h1; omega
    exact Nat.lt_of_lt_of_le h2 (Nat.pow_le_pow_right (by decide) (by omega))
  rw [Wire.get_cons, BitVec.toNat_or, BitVec.toNat_shiftLeft, BitVec.toNat_setWidth, Nat.shiftLeft_eq, Nat.mod_eq_of_lt (by omega : (Wire.get r).toNat * 2 ^ 8 < 2 ^ 64), Nat.mod_eq_of_lt (by have := x.isLt; omega : x.toNat < 2 ^ 64), Nat.mul_comm, ← Nat.two_pow_add_eq_or_of_lt x.isLt]
  omega
theorem num_zero (l : List (BitVec 8)) (a n : Nat) (h : a + n ≤ l.length) (h8 : n ≤ 8) : (num l a n).toNat = 0 ↔ allZ (cut l a n) = true := by
  have hl := num_le l a n h h8
  have z : Wire.le 0#64 n = List.replicate n 0#8 := by
    apply List.ext_getElem?
    intro i
    by_cases hi : i < n
    · rw [Wire.le_get _ _ _ hi, List.getElem?_replicate, if_pos hi]; congr 1; simp
    · rw [List.getElem?_eq_none (by rw [Wire.le_len]; omega), List.getElem?_eq_none (by simp; omega)]
  rw [allZ_iff, cut_len h]
  constructor
  · intro h0
    have : num l a n = 0#64 := BitVec.eq_of_toNat_eq h0
    rw [← hl, this, z]
  · intro h0
    unfold num
    rw [h0, ← z, Wire.get_le 0#64 n h8 (fun _ => by simp)]; rfl
theorem num_two (l : List (BitVec 8)) (h : 8 ≤ l.length) : (num l 0 8).toNat = (num l 0 2).toNat + 65536 * (num l 2 6).toNat := by
  match l, h with
  | x0 :: x1 :: r, h =>
    have e1 : num (x0 :: x1 :: r) 0 8 = Wire.get (x0 :: x1 :: cut (x0 :: x1 :: r) 2 6) := rfl
    have e2 : num (x0 :: x1 :: r) 0 2 = Wire.get [x0, x1] := rfl
    have hc : (cut (x0 :: x1 :: r) 2 6).length ≤ 6 := by unfold cut; rw [List.length_take]; omega
    rw [e1, e2, get_consN _ _ (by rw [List.length_cons]; omega), get_consN _ _ (by omega), get_consN _ _ (by simp), get_consN _ _ (by simp)]
    show _ + 256 * (_ + 256 * (num _ 2 6).toNat) = _ + 256 * (_ + 256 * 0) + _
    omega
theorem cons_eq2 {α : Type} {a b : α} {l m : List α} (h : a = b) (h2 : l = m) : a :: l = b :: m := by rw [h, h2]
theorem tw_all {α : Type} (p : α → Bool) (l : List α) : ∀ x ∈ l.takeWhile p, p x = true := by
  induction l with
  | nil => intro x hx; exact absurd hx (by simp)
  | cons y l ih =>
    intro x hx
    rw [List.takeWhile_cons] at hx
    cases hy : p y
    · rw [hy] at hx; exact absurd hx (by simp)
    · rw [hy, if_pos rfl] at hx
      rcases List.mem_cons.1 hx with rfl | h
      · exact hy
      · exact ih x h
theorem resOk_true (sz : Nat) (k m : Nat) (l : List (BitVec 8)) : resOk (List.replicate k (sz, true) ++ [(m, false)]) l = allZ ((l.drop (sz * k)).take m) := by
  induction k generalizing l with
  | zero => rw [List.replicate_zero, List.nil_append]; unfold resOk resOk; rw [Bool.and_true, Bool.false_or, Nat.mul_zero, List.drop_zero]
  | succ k ih => rw [List.replicate_succ, List.cons_append]; unfold resOk; rw [Bool.true_or, Bool.true_and, ih, List.drop_drop, Nat.mul_succ, Nat.add_comm]
theorem fieldsOf_true (s : Nat) (k : Nat) (l : List (BitVec 8)) (a : Nat) : fieldsOf l a (List.replicate k (s, true)) = (List.range k).map fun i => (num l (a + s * i) s, (s : Int)) := by
  induction k generalizing a with
  | zero => rfl
  | succ k ih =>
    rw [List.replicate_succ, List.range_succ_eq_map, List.map_cons, List.map_map]
    unfold fieldsOf
    rw [if_pos rfl, ih]
    refine cons_eq2 rfl (List.map_congr_left fun i _ => ?_)
    show _ = (num l (a + s * (i + 1)) s, _)
    rw [show a + s + s * i = a + s * (i + 1) by rw [Nat.mul_succ]; omega]
theorem spSz_true (s k : Nat) : spSz (List.replicate k (s, true)) = s * k := by
  unfold spSz
  induction k with
  | zero => rfl
  | succ k ih => rw [List.replicate_succ, List.map_cons, List.sum_cons, ih, Nat.mul_succ, Nat.add_comm]
/-- The zones of bytes. -/
def zoN (l : List (BitVec 8)) : Nat := min (num l 0 8).toNat 511
def zoL (l : List (BitVec 8)) (n : Nat) : List (BitVec 64) := (List.range n).map fun i => num l (8 + 8 * i) 8
def zoRd (l : List (BitVec 8)) : List (BitVec 64) := zoL l (zoN l)
def zoOkB (l : List (BitVec 8)) : Bool := zoOkL (zoRd l) && (zoBL (zoRd l) == l)
def zoM (l : List (BitVec 8)) : Nat := (num l 0 2).toNat
def zoFine (l : List (BitVec 8)) : Bool := decide (zoM l ≤ 511) && (allZ (cut l 2 6) && (zoRis (zoL l (zoM l)) && allZ (l.drop (8 + 8 * zoM l))))
theorem zoL_len (l : List (BitVec 8)) (n : Nat) : (zoL l n).length = n := by unfold zoL; rw [List.length_map, List.length_range]
theorem zoL_get (l : List (BitVec 8)) (n i : Nat) (h : i < n) : (zoL l n)[i]? = some (num l (8 + 8 * i) 8) := by unfold zoL; rw [List.getElem?_map, List.getElem?_range h]; rfl
theorem zoL_take (l : List (BitVec 8)) (n k : Nat) (h : k ≤ n) : (zoL l n).take k = zoL l k := by
  unfold zoL; rw [← List.map_take, List.take_range, Nat.min_eq_left h]
theorem zoL_more (l : List (BitVec 8)) (n : Nat) : zoL l (n + 1) = zoL l n ++ [num l (8 + 8 * n) 8] := by unfold zoL; rw [List.range_succ, List.map_append]; rfl
theorem zo_back (l : List (BitVec 8)) (h : l.length = 4096) (n : Nat) (hn : n ≤ 511) (he : (num l 0 8).toNat = n) : (zoBL (zoL l n) == l) = allZ (l.drop (8 + 8 * n)) := by
  have hf : zoFl (zoL l n) = fieldsOf l 0 (List.replicate (1 + n) (8, true)) := by
    rw [fieldsOf_true, Nat.add_comm 1 n, List.range_succ_eq_map, List.map_cons, List.map_map]
    unfold zoFl
    refine cons_eq2 ?_ ?_
    · rw [zoL_len, Nat.zero_add, Nat.mul_zero, ← he, BitVec.ofNat_toNat, BitVec.setWidth_eq]; rfl
    · unfold fl64 zoL
      rw [List.map_map]
      refine List.map_congr_left fun i _ => ?_
      show (num l (8 + 8 * i) 8, (8 : Int)) = (num l (0 + 8 * (i + 1)) 8, _)
      rw [show 0 + 8 * (i + 1) = 8 + 8 * i by omega]; rfl
  unfold zoBL
  rw [hf, page_back l _ (4096 - (8 + 8 * n)) 4096 (fun s hs => by rw [List.eq_of_mem_replicate hs]; decide) (by rw [spSz_true]; omega) h, resOk_true, show 8 * (1 + n) = 8 + 8 * n by omega, List.take_of_length_le (by rw [List.length_drop]; omega)]
theorem zo_okB (l : List (BitVec 8)) (h : l.length = 4096) : zoOkB l = zoFine l ∧ (zoFine l = true → zoRd l = zoL l (zoM l)) := by
  have h2 := num_two l (by omega)
  have h6 := num_zero l 2 6 (by omega) (by decide)
  have hlt : (num l 0 2).toNat < 65536 := num_lt l 0 2 (by omega) (by decide)
  by_cases hc : (num l 0 8).toNat ≤ 511
  · have z6 : (num l 2 6).toNat = 0 := by omega
    have em : zoM l = (num l 0 8).toNat := by unfold zoM; omega
    have en : zoN l = zoM l := by unfold zoN; rw [em]; omega
    refine ⟨?_, fun _ => by unfold zoRd; rw [en]⟩
    unfold zoOkB zoFine zoRd zoOkL
    rw [en, zo_back l h (zoM l) (by omega) em.symm, h6.1 z6, zoL_len, Bool.true_and, Bool.and_assoc]
  · have hf : zoFine l = false := by
      unfold zoFine
      by_cases q : zoM l ≤ 511
      · have : allZ (cut l 2 6) = false := by
          cases hz : allZ (cut l 2 6)
          · rfl
          · have := h6.2 hz; unfold zoM at q; omega
        rw [this, Bool.false_and, Bool.and_false]
      · rw [decide_eq_false q, Bool.false_and]
    rw [hf]
    refine ⟨?_, fun h => by cases h⟩
    unfold zoOkB
    have : (zoBL (zoRd l) == l) = false := by
      refine beq_eq_false_iff_ne.2 fun hh => ?_
      have hn : zoN l = 511 := by unfold zoN; omega
      have h8 := num_field (zoFl (zoRd l)) (zo_e _) (List.replicate (4096 - (Wire.cat (zoFl (zoRd l))).length) 0#8) 0 (BitVec.ofNat 64 (zoRd l).length, 8) rfl
      have h9 : num (zoBL (zoRd l)) 0 8 = BitVec.ofNat 64 511 := by
        have : (zoRd l).length = 511 := by unfold zoRd; rw [zoL_len, hn]
        rw [this] at h8; exact h8
      rw [hh] at h9
      rw [h9] at hc
      exact hc (by decide)
    rw [this, Bool.and_false]
theorem zo_dec (l : List (BitVec 8)) : decP 4096 zoRd zoOkB [] l = decP 4096 (fun l => zoL l (zoM l)) zoFine [] l := by
  unfold decP
  by_cases h1 : l.length < 4096
  · rw [if_pos h1, if_pos h1]
  · rw [if_neg h1, if_neg h1]
    by_cases h2 : 4096 < l.length
    · rw [if_pos h2, if_pos h2]
    · obtain ⟨e1, e2⟩ := zo_okB l (by omega)
      rw [if_neg h2, if_neg h2, e1]
      by_cases h3 : zoFine l = true
      · rw [if_pos h3, if_pos h3, e2 h3]
      · rw [if_neg h3, if_neg h3]
/-- The namespaces of bytes: those before the first zero. -/
def nsAll (l : List (BitVec 8)) : List (BitVec 32) := (List.range 1024).map fun i => (num l (4 * i) 4).setWidth 32
def nsRd (l : List (BitVec 8)) : List (BitVec 32) := (nsAll l).takeWhile (· != 0#32)
def nsOkB (l : List (BitVec 8)) : Bool := nsOkL (nsRd l) && (nsBL (nsRd l) == l)
def nsFine (l : List (BitVec 8)) : Bool := risB 0#32 (nsRd l) && allZ (l.drop (4 * (nsRd l).length))
theorem nsAll_len (l : List (BitVec 8)) : (nsAll l).length = 1024 := by unfold nsAll; rw [List.length_map, List.length_range]
theorem nsAll_get (l : List (BitVec 8)) (i : Nat) (h : i < 1024) : (nsAll l)[i]? = some ((num l (4 * i) 4).setWidth 32) := by unfold nsAll; rw [List.getElem?_map, List.getElem?_range h]; rfl
theorem nsRd_le (l : List (BitVec 8)) : (nsRd l).length ≤ 1024 := by
  have := (List.takeWhile_prefix (· != 0#32) (l := nsAll l)).length_le
  rw [nsAll_len] at this; exact this
theorem nsRd_take (l : List (BitVec 8)) : nsRd l = (nsAll l).take (nsRd l).length := (List.prefix_iff_eq_take.1 (List.takeWhile_prefix _))
theorem nsRd_get (l : List (BitVec 8)) (i : Nat) (h : i < (nsRd l).length) : (nsRd l)[i]? = some ((num l (4 * i) 4).setWidth 32) ∧ (num l (4 * i) 4).setWidth 32 ≠ 0#32 := by
  have h1 := nsRd_le l
  have e : (nsRd l)[i]? = some ((num l (4 * i) 4).setWidth 32) := by
    rw [nsRd_take, List.getElem?_take_of_lt h, nsAll_get l i (by omega)]
  refine ⟨e, ?_⟩
  have hm : (num l (4 * i) 4).setWidth 32 ∈ nsRd l := List.mem_of_getElem? e
  unfold nsRd at hm
  have := tw_all _ _ _ hm
  simpa using this
theorem takeWhile_end {α : Type} (p : α → Bool) (l : List α) (h : (l.takeWhile p).length < l.length) : ∃ x, l[(l.takeWhile p).length]? = some x ∧ p x = false := by
  induction l with
  | nil => exact absurd h (by simp)
  | cons y l ih =>
    rw [List.takeWhile_cons] at h ⊢
    cases hy : p y
    · rw [hy] at h; exact ⟨y, by simp, hy⟩
    · rw [hy] at h
      simp only [if_true, List.length_cons] at h ⊢
      obtain ⟨x, h1, h2⟩ := ih (by omega)
      exact ⟨x, by rw [List.getElem?_cons_succ]; exact h1, h2⟩
theorem nsRd_end (l : List (BitVec 8)) (h : (nsRd l).length < 1024) : (num l (4 * (nsRd l).length) 4).setWidth 32 = 0#32 := by
  obtain ⟨x, h1, h2⟩ := takeWhile_end (· != 0#32) (nsAll l) (by rw [nsAll_len]; exact h)
  replace h1 : (nsAll l)[(nsRd l).length]? = some x := h1
  rw [nsAll_get l _ h] at h1
  injection h1 with h1
  rw [← h1] at h2
  simpa using h2
/-- The first n dwords. -/
def nsN (l : List (BitVec 8)) (n : Nat) : List (BitVec 32) := (List.range n).map fun i => (num l (4 * i) 4).setWidth 32
theorem nsN_len (l : List (BitVec 8)) (n : Nat) : (nsN l n).length = n := by unfold nsN; rw [List.length_map, List.length_range]
theorem nsN_more (l : List (BitVec 8)) (n : Nat) : nsN l (n + 1) = nsN l n ++ [(num l (4 * n) 4).setWidth 32] := by unfold nsN; rw [List.range_succ, List.map_append]; rfl
theorem nsN_get (l : List (BitVec 8)) (n i : Nat) (h : i < n) : (nsN l n)[i]? = some ((num l (4 * i) 4).setWidth 32) := by unfold nsN; rw [List.getElem?_map, List.getElem?_range h]; rfl
theorem nsN_take (l : List (BitVec 8)) (n k : Nat) (h : k ≤ n) : (nsN l n).take k = nsN l k := by
  unfold nsN; rw [← List.map_take, List.take_range, Nat.min_eq_left h]
theorem nsRd_N (l : List (BitVec 8)) : nsRd l = nsN l (nsRd l).length := by
  refine (nsRd_take l).trans ?_
  exact nsN_take l 1024 _ (nsRd_le l)
theorem nsN_back (l : List (BitVec 8)) (h : l.length = 4096) (n : Nat) (h1 : n ≤ 1024) : (nsBL (nsN l n) == l) = allZ (l.drop (4 * n)) := by
  have hf : fl32 (nsN l n) = fieldsOf l 0 (List.replicate n (4, true)) := by
    rw [fieldsOf_true]
    unfold fl32 nsN
    rw [List.map_map]
    refine List.map_congr_left fun i hi => ?_
    have hi : i < n := List.mem_range.1 hi
    show (((num l (4 * i) 4).setWidth 32).setWidth 64, (4 : Int)) = (num l (0 + 4 * i) 4, _)
    rw [num_back32 l (4 * i) (by omega), Nat.zero_add]; rfl
  unfold nsBL
  rw [hf, page_back l _ (4096 - 4 * n) 4096 (fun s hs => by rw [List.eq_of_mem_replicate hs]; decide) (by rw [spSz_true]; omega) h, resOk_true, List.take_of_length_le (by rw [List.length_drop]; omega)]
theorem ns_back (l : List (BitVec 8)) (h : l.length = 4096) : (nsBL (nsRd l) == l) = allZ (l.drop (4 * (nsRd l).length)) := by
  have e := nsN_back l h _ (nsRd_le l)
  rw [← nsRd_N] at e
  exact e
theorem ns_dec (l : List (BitVec 8)) : decP 4096 nsRd nsOkB [] l = decP 4096 nsRd nsFine [] l := by
  refine decP_congr _ _ _ _ _ _ _ fun h => ⟨rfl, ?_⟩
  unfold nsOkB nsFine nsOkL
  rw [ns_back l h, decide_eq_true (nsRd_le l), Bool.true_and]
/-- Fields that are all laid. -/
def lT (fl : List WF) : List (WF × Bool) := fl.map fun f => (f, true)
theorem lT_fst (fl : List WF) : (lT fl).map (·.1) = fl := by unfold lT; rw [List.map_map]; exact List.map_id _
theorem plcT_more (s : Nat) (x : WF) : ∀ (fl : List WF) (a : Nat), (∀ f ∈ fl, f.2 = (s : Int)) → plc a (lT (fl ++ [x])) = plc a (lT fl) ++ [(a + s * fl.length, Wire.putB x.1 x.2)]
  | [], a, _ => by rw [List.length_nil, Nat.mul_zero, Nat.add_zero]; rfl
  | f :: fl, a, h => by
    have hf : f.2.toNat = s := by rw [h f List.mem_cons_self]; rfl
    have e : ∀ r : List WF, plc a (lT (f :: r)) = (a, Wire.putB f.1 f.2) :: plc (a + f.2.toNat) (lT r) := fun r => rfl
    rw [List.cons_append, e, e, hf, plcT_more s x fl (a + s) (fun g hg => h g (List.mem_cons_of_mem _ hg)), List.cons_append, List.length_cons, Nat.mul_succ, show a + s + s * fl.length = a + (s * fl.length + s) by omega]
theorem fl32_s (l : List (BitVec 32)) : ∀ f ∈ fl32 l, f.2 = ((4 : Nat) : Int) := fun f hf => by obtain ⟨x, -, rfl⟩ := List.mem_map.1 hf; rfl
theorem fl64_s (l : List (BitVec 64)) : ∀ f ∈ fl64 l, f.2 = ((8 : Nat) : Int) := fun f hf => by obtain ⟨x, -, rfl⟩ := List.mem_map.1 hf; rfl
theorem fl32_snoc (l : List (BitVec 32)) (x : BitVec 32) : fl32 (l ++ [x]) = fl32 l ++ [(x.setWidth 64, 4)] := by unfold fl32; rw [List.map_append]; rfl
theorem fl64_snoc (l : List (BitVec 64)) (x : BitVec 64) : fl64 (l ++ [x]) = fl64 l ++ [(x, 8)] := by unfold fl64; rw [List.map_append]; rfl
theorem fl32_n (l : List (BitVec 32)) : (fl32 l).length = l.length := by unfold fl32; rw [List.length_map]
theorem fl64_n (l : List (BitVec 64)) : (fl64 l).length = l.length := by unfold fl64; rw [List.length_map]
/-- What is laid so far. -/
def nsP (N : Nat) (l : List (BitVec 32)) : List (BitVec 8) := Lay.lays (List.replicate N 0#8) (plc 0 (lT (fl32 l)))
theorem nsP_more (N : Nat) (l : List (BitVec 32)) (x : BitVec 32) : Lay.lay (nsP N l) (4 * l.length) (Wire.le (x.setWidth 64) 4) = nsP N (l ++ [x]) := by
  unfold nsP
  rw [fl32_snoc, plcT_more 4 (x.setWidth 64, 4) (fl32 l) 0 (fl32_s l), Lay.lays_snoc, fl32_n, Nat.zero_add, (fit32 x).2]
theorem nsP_all (N : Nat) (l : List (BitVec 32)) (h : 4 * l.length ≤ N) : nsP N l = pageB N (fl32 l) := by
  have := lays_page (lT (fl32 l)) N (fun f hf => by
    obtain ⟨g, hg, rfl⟩ := List.mem_map.1 hf
    obtain ⟨x, -, rfl⟩ := List.mem_map.1 hg
    exact ⟨(fit32 x).1, fun h => by cases h⟩) (by rw [lT_fst, fl32_sz]; exact h)
  rw [lT_fst] at this
  exact this
theorem le_two (n : BitVec 64) (h : n.toNat < 65536) : Wire.le n 8 = Wire.le n 2 ++ List.replicate 6 0#8 := by
  have z : ∀ i, 2 ≤ i → (n >>> (8 * i)).setWidth 8 = 0#8 := fun i hi => by
    apply BitVec.eq_of_toNat_eq
    rw [BitVec.toNat_setWidth, BitVec.toNat_ushiftRight, Nat.shiftRight_eq_div_pow, Nat.div_eq_of_lt (Nat.lt_of_lt_of_le h (Nat.le_trans (by decide : 65536 ≤ 2 ^ 16) (Nat.pow_le_pow_right (by decide) (by omega))))]; rfl
  unfold Wire.le
  simp only [show List.range 8 = [0, 1, 2, 3, 4, 5, 6, 7] from rfl, show List.range 2 = [0, 1] from rfl, List.map_cons, List.map_nil]
  rw [z 2 (by decide), z 3 (by decide), z 4 (by decide), z 5 (by decide), z 6 (by decide), z 7 (by decide)]
  rfl
def zoP (n : Nat) (l : List (BitVec 64)) : List (BitVec 8) := Lay.lays (Lay.lay (List.replicate 4096 0#8) 0 (Wire.le (BitVec.ofNat 64 n) 2)) (plc 8 (lT (fl64 l)))
theorem zoP_nil (n : Nat) : zoP n [] = Lay.lay (List.replicate 4096 0#8) 0 (Wire.le (BitVec.ofNat 64 n) 2) := by
  unfold zoP
  rw [show plc 8 (lT (fl64 [])) = [] from rfl, Lay.lays_nil]
theorem nsP_nil (N : Nat) : nsP N [] = List.replicate N 0#8 := by
  unfold nsP
  rw [show plc 0 (lT (fl32 [])) = [] from rfl, Lay.lays_nil]
theorem zoP_more (n : Nat) (l : List (BitVec 64)) (x : BitVec 64) : Lay.lay (zoP n l) (8 + 8 * l.length) (Wire.le x 8) = zoP n (l ++ [x]) := by
  unfold zoP
  rw [fl64_snoc, plcT_more 8 (x, 8) (fl64 l) 8 (fl64_s l), Lay.lays_snoc, fl64_n, (fit64 x).2]
theorem zoP_all (l : List (BitVec 64)) (h : l.length ≤ 511) : zoP l.length l = zoBL l := by
  have hn : (BitVec.ofNat 64 l.length).toNat = l.length := by rw [BitVec.toNat_ofNat, Nat.mod_eq_of_lt (by omega)]
  have f2 := fit_any (BitVec.ofNat 64 l.length) 2 (by decide) (by decide) (by rw [hn]; omega)
  have f6 := fit0 6 (by decide) (by decide)
  have := lays_page (((BitVec.ofNat 64 l.length, 2), true) :: ((0#64, 6), false) :: lT (fl64 l)) 4096 (by
    rw [List.forall_mem_cons, List.forall_mem_cons]
    refine ⟨⟨f2.1, fun h => by cases h⟩, ⟨f6.1, fun _ => rfl⟩, fun f hf => ?_⟩
    obtain ⟨g, hg, rfl⟩ := List.mem_map.1 hf
    obtain ⟨x, -, rfl⟩ := List.mem_map.1 hg
    exact ⟨(fit64 x).1, fun h => by cases h⟩) (by
    rw [List.map_cons, List.map_cons, lT_fst]
    show 2 + (6 + sz (fl64 l)) ≤ 4096
    rw [fl64_sz]; omega)
  rw [List.map_cons, List.map_cons, lT_fst] at this
  have e1 : zoP l.length l = Lay.lays (List.replicate 4096 0#8) (plc 0 (((BitVec.ofNat 64 l.length, 2), true) :: ((0#64, 6), false) :: lT (fl64 l))) := by
    have : plc 0 (((BitVec.ofNat 64 l.length, 2), true) :: ((0#64, 6), false) :: lT (fl64 l)) = (0, Wire.putB (BitVec.ofNat 64 l.length) 2) :: plc 8 (lT (fl64 l)) := rfl
    rw [this, show Wire.putB (BitVec.ofNat 64 l.length) 2 = Wire.le (BitVec.ofNat 64 l.length) 2 from f2.2]
    rfl
  rw [e1, this]
  have e2 : Wire.cat ((BitVec.ofNat 64 l.length, 2) :: (0#64, 6) :: fl64 l) = Wire.cat (zoFl l) := by
    unfold zoFl Wire.cat
    rw [List.flatMap_cons, List.flatMap_cons, List.flatMap_cons, ← List.append_assoc]
    refine congrArg (· ++ _) ?_
    show Wire.putB (BitVec.ofNat 64 l.length) (2 : Nat) ++ Wire.putB 0#64 (6 : Nat) = Wire.putB (BitVec.ofNat 64 l.length) 8
    rw [f2.2, f6.2, (fit64 _).2, le_two _ (by rw [hn]; omega)]
  unfold zoBL pageB
  rw [e2]
/-- Effects. -/
def efB (a b : List (BitVec 32)) : List (BitVec 8) := nsBL (a ++ b)
def ioN (l : List (BitVec 8)) (n : Nat) : List (BitVec 32) := (List.range n).map fun i => (num l (1024 + 4 * i) 4).setWidth 32
theorem ioN_len (l : List (BitVec 8)) (n : Nat) : (ioN l n).length = n := by unfold ioN; rw [List.length_map, List.length_range]
theorem ioN_more (l : List (BitVec 8)) (n : Nat) : ioN l (n + 1) = ioN l n ++ [(num l (1024 + 4 * n) 4).setWidth 32] := by unfold ioN; rw [List.range_succ, List.map_append]; rfl
theorem ef_split (l : List (BitVec 8)) : nsN l 512 = nsN l 256 ++ ioN l 256 := by
  unfold nsN ioN
  rw [show (512 : Nat) = 256 + 256 from rfl, List.range_add, List.map_append, List.map_map]
  refine congrArg (fun z => (List.range 256).map (fun i => BitVec.setWidth 32 (num l (4 * i) 4)) ++ z) (List.map_congr_left fun i _ => ?_)
  show (num l (4 * (256 + i)) 4).setWidth 32 = _
  rw [show 4 * (256 + i) = 1024 + 4 * i by omega]
theorem ef_back (l : List (BitVec 8)) (h : l.length = 4096) : (efB (nsN l 256) (ioN l 256) == l) = allZ (l.drop 2048) := by
  unfold efB
  rw [← ef_split, nsN_back l h 512 (by decide)]
theorem lay_left (A B d : List (BitVec 8)) (p : Nat) (h : p + d.length ≤ A.length) : Lay.lay (A ++ B) p d = Lay.lay A p d ++ B := by
  unfold Lay.lay
  rw [List.take_append_of_le_length (by omega), List.drop_append_of_le_length h]; simp only [List.append_assoc]
theorem lay_right (A B d : List (BitVec 8)) (p : Nat) : Lay.lay (A ++ B) (A.length + p) d = A ++ Lay.lay B p d := by
  unfold Lay.lay
  rw [List.take_length_add_append, Nat.add_assoc, List.drop_length_add_append]; simp only [List.append_assoc]
theorem nsP_len (N : Nat) (l : List (BitVec 32)) (h : 4 * l.length ≤ N) : (nsP N l).length = N := by
  rw [nsP_all N l h]; exact pageB_len (by rw [cat_len0 _ (fl32_e l), fl32_sz]; exact h)
def efP (a b : List (BitVec 32)) : List (BitVec 8) := nsP 1024 a ++ nsP 3072 b
theorem efP_a (a b : List (BitVec 32)) (x : BitVec 32) (h : a.length < 256) : Lay.lay (efP a b) (4 * a.length) (Wire.le (x.setWidth 64) 4) = efP (a ++ [x]) b := by
  unfold efP
  rw [lay_left _ _ _ _ (by rw [nsP_len 1024 a (by omega), Wire.le_len]; omega), nsP_more]
theorem efP_b (a b : List (BitVec 32)) (x : BitVec 32) (h : a.length ≤ 256) : Lay.lay (efP a b) (1024 + 4 * b.length) (Wire.le (x.setWidth 64) 4) = efP a (b ++ [x]) := by
  unfold efP
  have e := nsP_len 1024 a (by omega)
  have := lay_right (nsP 1024 a) (nsP 3072 b) (Wire.le (x.setWidth 64) 4) (4 * b.length)
  rw [e] at this
  rw [this, nsP_more]
theorem efP_all (a b : List (BitVec 32)) (ha : a.length = 256) (hb : b.length = 256) : efP a b = efB a b := by
  unfold efP efB nsBL
  rw [nsP_all 1024 a (by omega), nsP_all 3072 b (by omega)]
  have e : fl32 (a ++ b) = fl32 a ++ fl32 b := by unfold fl32; rw [List.map_append]
  have c : Wire.cat (fl32 (a ++ b)) = Wire.cat (fl32 a) ++ Wire.cat (fl32 b) := by rw [e]; unfold Wire.cat; rw [List.flatMap_append]
  have na : (Wire.cat (fl32 a)).length = 1024 := by rw [cat_len0 _ (fl32_e a), fl32_sz]; omega
  have nb : (Wire.cat (fl32 b)).length = 1024 := by rw [cat_len0 _ (fl32_e b), fl32_sz]; omega
  unfold pageB
  rw [c, List.length_append, na, nb, Nat.sub_self, List.replicate_zero, List.append_nil, List.append_assoc]
end Lg
end Go.Proofs.YthnnopjakpjoeaaGreatDoor
namespace Go.Proofs.YthnnopjakpjoeaaGreatDoor
open Go.RowKit Lg
set_option linter.unusedVariables false
set_option linter.unusedSimpArgs false
namespace Lg
def isSpc (y : BitVec 8) : Bool := y == 32#8
def strip (s : List (BitVec 8)) : List (BitVec 8) := Wire.rstrip (s.dropWhile isSpc)
theorem dropWhile_map' {α β : Type} (f : α → β) (p : β → Bool) (q : α → Bool) (l : List α) (h : ∀ x ∈ l, p (f x) = q x) : (l.map f).dropWhile p = (l.dropWhile q).map f := by
  induction l with
  | nil => rfl
  | cons x l ih =>
    rw [List.map_cons, List.dropWhile_cons, List.dropWhile_cons, h x List.mem_cons_self, ih (fun y hy => h y (List.mem_cons_of_mem _ hy))]
    split <;> rfl
theorem mem_dropW {α : Type} (q : α → Bool) (l : List α) : ∀ x ∈ l.dropWhile q, x ∈ l := fun x hx => (List.dropWhile_suffix q).subset hx
theorem sp_byte (y : BitVec 8) (h : Wire.plainB y = true) : Lib.isSp (UInt8.ofBitVec y) = isSpc y := by
  unfold Wire.plainB at h
  rw [Bool.and_eq_true, decide_eq_true_eq, decide_eq_true_eq] at h
  have e : uv y = y.toNat := rfl
  rw [e] at h
  unfold Lib.isSp isSpc
  have hb : ∀ k : Nat, k < 256 → (UInt8.ofBitVec y == UInt8.ofNat k) = decide (y.toNat = k) := fun k hk => by
    rw [Bool.eq_iff_iff, beq_iff_eq, decide_eq_true_eq]
    constructor
    · intro h1
      have := congrArg UInt8.toNat h1
      rw [UInt8.toNat_ofNat'] at this
      have h2 : (UInt8.ofBitVec y).toNat = y.toNat := rfl
      omega
    · intro h1
      apply UInt8.toNat_inj.1
      rw [UInt8.toNat_ofNat']
      show y.toNat = _
      omega
  rw [show (9 : UInt8) = UInt8.ofNat 9 from rfl, show (10 : UInt8) = UInt8.ofNat 10 from rfl, show (11 : UInt8) = UInt8.ofNat 11 from rfl, show (12 : UInt8) = UInt8.ofNat 12 from rfl, show (13 : UInt8) = UInt8.ofNat 13 from rfl, show (32 : UInt8) = UInt8.ofNat 32 from rfl]
  rw [hb 9 (by decide), hb 10 (by decide), hb 11 (by decide), hb 12 (by decide), hb 13 (by decide), hb 32 (by decide)]
  rw [decide_eq_false (by omega : ¬ y.toNat = 9), decide_eq_false (by omega : ¬ y.toNat = 10), decide_eq_false (by omega : ¬ y.toNat = 11), decide_eq_false (by omega : ¬ y.toNat = 12), decide_eq_false (by omega : ¬ y.toNat = 13)]
  simp only [Bool.false_or]
  rw [Bool.eq_iff_iff, decide_eq_true_eq, beq_iff_eq]
  constructor
  · intro h1; exact BitVec.eq_of_toNat_eq h1
  · intro h1; rw [h1]; rfl
theorem plain_mem {s : List (BitVec 8)} (h : Wire.plain s = true) : ∀ y ∈ s, Wire.plainB y = true := by
  unfold Wire.plain at h; rwa [List.all_eq_true] at h
theorem plain_of {s : List (BitVec 8)} (h : ∀ y ∈ s, Wire.plainB y = true) : Wire.plain s = true := by
  unfold Wire.plain; rwa [List.all_eq_true]
theorem tS_strip {s : List (BitVec 8)} (h : Wire.plain s = true) : tS s = strOf (strip s) := by
  have hp := plain_mem h
  have e1 : (strOf s).data.toList = s.map UInt8.ofBitVec := rfl
  unfold tS Lib.trimSpace
  rw [e1, dropWhile_map' UInt8.ofBitVec Lib.isSp isSpc s (fun x hx => sp_byte x (hp x hx)), ← List.map_reverse, dropWhile_map' UInt8.ofBitVec Lib.isSp isSpc _ (fun x hx => sp_byte x (hp x (mem_dropW _ _ x (List.mem_reverse.1 hx)))), ← List.map_reverse]
  rfl
/-- A revision, as the reference has it. -/
def ends (s : List (BitVec 8)) : Bool := s.isEmpty || (!(s.head? == some 32#8) && !(s.getLast? == some 32#8))
def revOk (s : List (BitVec 8)) : Bool := decide (s.length ≤ 8) && (Wire.plain s && ends s)
theorem dropWhile_len {α : Type} (q : α → Bool) (l : List α) : (l.dropWhile q).length ≤ l.length := (List.dropWhile_suffix q).length_le
theorem rstrip_len (s : List (BitVec 8)) : (Wire.rstrip s).length ≤ s.length := by
  unfold Wire.rstrip
  rw [List.length_reverse]
  exact Nat.le_trans (dropWhile_len _ _) (by rw [List.length_reverse]; exact Nat.le_refl _)
theorem dropWhile_id {α : Type} (q : α → Bool) (l : List α) (h : ∀ x, l.head? = some x → q x = false) : l.dropWhile q = l := by
  cases l with
  | nil => rfl
  | cons x l => rw [List.dropWhile_cons, h x rfl]; rfl
theorem dropWhile_head {α : Type} (q : α → Bool) (l : List α) (h : l.dropWhile q = l) (x : α) (hx : l.head? = some x) : q x = false := by
  cases l with
  | nil => cases hx
  | cons y l =>
    injection hx with hx
    subst hx
    cases hq : q y
    · rfl
    · rw [List.dropWhile_cons, hq] at h
      have := congrArg List.length h
      have h2 := dropWhile_len q l
      simp at this
      omega
theorem strip_id (s : List (BitVec 8)) : (strip s == s) = ends s := by
  rw [Bool.eq_iff_iff, beq_iff_eq]
  unfold ends
  cases hs : s with
  | nil => simp [strip, Wire.rstrip]
  | cons y t =>
    rw [← hs]
    have hne : s.isEmpty = false := by rw [hs]; rfl
    rw [hne, Bool.false_or, Bool.and_eq_true, Bool.not_eq_true', Bool.not_eq_true', beq_eq_false_iff_ne, beq_eq_false_iff_ne]
    constructor
    · intro h
      have hl : (s.dropWhile isSpc).length = s.length := by
        have h1 := congrArg List.length h
        have h2 := rstrip_len (s.dropWhile isSpc)
        have h3 := dropWhile_len isSpc s
        unfold strip at h1
        omega
      have hd : s.dropWhile isSpc = s := (List.dropWhile_suffix isSpc).eq_of_length hl
      constructor
      · intro hh
        have := dropWhile_head isSpc s hd _ hh
        cases this
      · intro hh
        have hr : Wire.rstrip s = s := by unfold strip at h; rwa [hd] at h
        have hr2 : s.reverse.dropWhile (· == 32#8) = s.reverse := by
          have := congrArg List.reverse hr
          unfold Wire.rstrip at this
          rwa [List.reverse_reverse] at this
        have := dropWhile_head _ _ hr2 32#8 (by rw [List.head?_reverse]; exact hh)
        simp at this
    · rintro ⟨h1, h2⟩
      have hd : s.dropWhile isSpc = s := dropWhile_id isSpc s (fun x hx => by
        unfold isSpc
        exact beq_eq_false_iff_ne.2 (fun e => h1 (by rw [hx, e])))
      unfold strip
      rw [hd]
      unfold Wire.rstrip
      rw [dropWhile_id _ _ (fun x hx => beq_eq_false_iff_ne.2 (fun e => h2 (by rw [List.head?_reverse] at hx; rw [hx, e]))), List.reverse_reverse]
theorem padE_iff (s : List (BitVec 8)) : decide (Wire.padE s 8 = 0) = (decide (s.length ≤ 8) && Wire.plain s) := by
  unfold Wire.padE
  cases h : Wire.plain s
  · rw [if_pos (.inr rfl), Bool.and_false]; rfl
  · rw [if_neg (show ¬ ((8 : Int) < 0 ∨ true = false) by simp), Bool.and_true]
    by_cases hl : s.length ≤ 8
    · rw [if_neg (by omega), decide_eq_true hl]; rfl
    · rw [if_pos (by left; omega), decide_eq_false hl]; rfl
theorem rv_eq (s : List (BitVec 8)) : rvOk s = revOk s := by
  unfold rvOk revOk
  rw [padE_iff, Bool.and_assoc]
  cases h : Wire.plain s
  · rw [Bool.false_and, Bool.false_and]
  · rw [tS_strip h, strOf_beq, strip_id]
theorem rstrip_tail (t : List (BitVec 8)) : t = Wire.rstrip t ++ List.replicate (t.length - (Wire.rstrip t).length) 32#8 := by
  have h := List.takeWhile_append_dropWhile (p := (· == 32#8)) (l := t.reverse)
  have e : t = (t.reverse.dropWhile (· == 32#8)).reverse ++ (t.reverse.takeWhile (· == 32#8)).reverse := by
    have := congrArg List.reverse h
    rw [List.reverse_append, List.reverse_reverse] at this
    exact this.symm
  have hall : ∀ x ∈ t.reverse.takeWhile (· == 32#8), x = 32#8 := fun x hx => by simpa using tw_all _ _ x hx
  have hr : t.reverse.takeWhile (· == 32#8) = List.replicate (t.reverse.takeWhile (· == 32#8)).length 32#8 := List.eq_replicate_iff.2 ⟨rfl, hall⟩
  have hlen : (t.reverse.takeWhile (· == 32#8)).length = t.length - (Wire.rstrip t).length := by
    have := congrArg List.length e
    simp only [List.length_append, List.length_reverse] at this
    unfold Wire.rstrip
    rw [List.length_reverse]
    omega
  conv => lhs; rw [e]
  rw [hr, List.reverse_replicate, hlen]
  rfl
theorem rstrip_last (t : List (BitVec 8)) : (Wire.rstrip t).getLast? ≠ some 32#8 := by
  intro h
  unfold Wire.rstrip at h
  rw [List.getLast?_reverse] at h
  have : ∀ l : List (BitVec 8), (l.dropWhile (· == 32#8)).head? ≠ some 32#8 := fun l => by
    induction l with
    | nil => simp
    | cons x l ih =>
      rw [List.dropWhile_cons]
      cases hx : (x == 32#8)
      · simp at hx; simp [hx]
      · simp only [if_true]; exact ih
  exact this _ h
/-- A revision's eight bytes. -/
def sltC (s : List (BitVec 8)) : List (BitVec 8) := if s = [] then List.replicate 8 0#8 else Wire.pad s 8
theorem pad_eq {s : List (BitVec 8)} (hp : Wire.plain s = true) (hl : s.length ≤ 8) : Wire.pad s 8 = s ++ List.replicate (8 - s.length) 32#8 := by
  have h : Wire.padE s 8 = 0 := by
    have := padE_iff s
    rw [hp, decide_eq_true hl] at this
    exact of_decide_eq_true this
  unfold Wire.pad
  rw [if_pos h]; rfl
def ckM (t : List (BitVec 8)) : Bool := rvOk (Wire.text t) && (sltC (Wire.text t) == t)
def rvR (t : List (BitVec 8)) : List (BitVec 8) := if allZ t then [] else Wire.rstrip t
def ckR (t : List (BitVec 8)) : Bool := allZ t || (!(Wire.rstrip t).isEmpty && revOk (Wire.rstrip t))
theorem zer_plain : Wire.plain (List.replicate 8 0#8) = false := by decide
theorem allZ_8 {t : List (BitVec 8)} (ht : t.length = 8) (h : allZ t = true) : t = List.replicate 8 0#8 := by
  have := allZ_iff.1 h; rwa [ht] at this
theorem rv_nil : rvOk [] = true := by rw [rv_eq]; rfl
theorem plain_rstrip {t : List (BitVec 8)} (h : Wire.plain (Wire.rstrip t) = true) : Wire.plain t = true := by
  rw [rstrip_tail t]
  refine plain_of fun y hy => ?_
  rcases List.mem_append.1 hy with h1 | h1
  · exact plain_mem h y h1
  · rw [List.eq_of_mem_replicate h1]; decide
theorem plain_rstrip' {t : List (BitVec 8)} (h : Wire.plain t = true) : Wire.plain (Wire.rstrip t) = true := by
  refine plain_of fun y hy => plain_mem h y ?_
  unfold Wire.rstrip at hy
  exact List.mem_reverse.1 (mem_dropW _ _ y (List.mem_reverse.1 hy))
theorem ck_eq (t : List (BitVec 8)) (ht : t.length = 8) : ckM t = ckR t := by
  unfold ckM ckR
  cases hz : allZ t
  · rw [Bool.false_or]
    have hzt : (List.replicate 8 0#8 == t) = false := by
      refine beq_eq_false_iff_ne.2 fun e => ?_
      rw [← e] at hz; exact absurd hz (by decide)
    cases hp : Wire.plain t
    · have e : Wire.text t = [] := by unfold Wire.text; rw [hp]; rfl
      rw [e]
      have e2 : sltC [] = List.replicate 8 0#8 := rfl
      rw [e2, hzt, Bool.and_false]
      have : revOk (Wire.rstrip t) = false := by
        unfold revOk
        cases hq : Wire.plain (Wire.rstrip t)
        · rw [Bool.false_and, Bool.and_false]
        · rw [plain_rstrip hq] at hp; cases hp
      rw [this, Bool.and_false]
    · have e : Wire.text t = Wire.rstrip t := by unfold Wire.text; rw [hp]; rfl
      rw [e, rv_eq]
      cases hr : (Wire.rstrip t).isEmpty
      · have hne : Wire.rstrip t ≠ [] := by intro h; rw [h] at hr; cases hr
        have hl := rstrip_len t
        have h1 : sltC (Wire.rstrip t) = t := by
          unfold sltC
          rw [if_neg hne, pad_eq (plain_rstrip' hp) (by omega)]
          have := rstrip_tail t
          rw [ht] at this
          exact this.symm
        rw [h1, beq_self_eq_true, Bool.and_true, Bool.not_false, Bool.true_and]
      · have hn : Wire.rstrip t = [] := List.isEmpty_iff.1 hr
        rw [hn]
        have e2 : sltC [] = List.replicate 8 0#8 := rfl
        rw [e2, hzt, Bool.and_false]; rfl
  · have e1 := allZ_8 ht hz
    have e : Wire.text t = [] := by unfold Wire.text; rw [e1, zer_plain]; rfl
    rw [e, rv_nil, Bool.true_or]
    have e2 : sltC [] = List.replicate 8 0#8 := rfl
    rw [e2, ← e1, beq_self_eq_true]; rfl
theorem rv_same (t : List (BitVec 8)) (ht : t.length = 8) (h : ckR t = true) : rvR t = Wire.text t := by
  unfold ckR at h
  unfold rvR
  cases hz : allZ t
  · rw [hz, Bool.false_or, Bool.and_eq_true] at h
    have hr := h.2
    unfold revOk at hr
    rw [Bool.and_eq_true, Bool.and_eq_true] at hr
    unfold Wire.text
    rw [plain_rstrip hr.2.1]; rfl
  · have e1 := allZ_8 ht hz
    unfold Wire.text
    rw [e1, zer_plain]; rfl
/-- A text that was written is read back. -/
theorem text_back (s : List (BitVec 8)) (h : rvOk s = true) : Wire.text (sltC s) = s ∧ (sltC s).length = 8 := by
  rw [rv_eq] at h
  unfold revOk at h
  rw [Bool.and_eq_true, Bool.and_eq_true] at h
  obtain ⟨h1, h2, h3⟩ := h
  have hl := of_decide_eq_true h1
  unfold sltC
  by_cases hs : s = []
  · rw [if_pos hs, hs]
    exact ⟨by unfold Wire.text; rw [zer_plain]; rfl, rfl⟩
  · rw [if_neg hs, pad_eq h2 hl]
    constructor
    · have hp : Wire.plain (s ++ List.replicate (8 - s.length) 32#8) = true := plain_of fun y hy => by
        rcases List.mem_append.1 hy with h4 | h4
        · exact plain_mem h2 y h4
        · rw [List.eq_of_mem_replicate h4]; decide
      unfold Wire.text
      rw [hp]
      simp only [if_true]
      unfold Wire.rstrip
      rw [List.reverse_append, List.reverse_replicate]
      have hd : ∀ (n : Nat) (l : List (BitVec 8)), (List.replicate n 32#8 ++ l).dropWhile (· == 32#8) = l.dropWhile (· == 32#8) := fun n l => by
        induction n with
        | zero => rfl
        | succ n ih => rw [List.replicate_succ, List.cons_append, List.dropWhile_cons]; exact ih
      rw [hd]
      unfold ends at h3
      have hne : s.isEmpty = false := by cases s with | nil => exact absurd rfl hs | cons y t => rfl
      rw [hne, Bool.false_or, Bool.and_eq_true, Bool.not_eq_true', Bool.not_eq_true', beq_eq_false_iff_ne, beq_eq_false_iff_ne] at h3
      rw [dropWhile_id _ _ (fun x hx => beq_eq_false_iff_ne.2 (fun e => h3.2 (by rw [List.head?_reverse] at hx; rw [hx, e]))), List.reverse_reverse]
    · rw [List.length_append, List.length_replicate]; omega
theorem text_len {t : List (BitVec 8)} (ht : t.length = 8) : (sltC (Wire.text t)).length = 8 ∧ (Wire.text t).length ≤ 8 := by
  unfold Wire.text
  cases hp : Wire.plain t
  · simp only [Bool.false_eq_true, if_false]
    exact ⟨rfl, by decide⟩
  · simp only [if_true]
    have hl := rstrip_len t
    refine ⟨?_, by omega⟩
    unfold sltC
    by_cases h : Wire.rstrip t = []
    · rw [if_pos h]; rfl
    · rw [if_neg h, pad_eq (plain_rstrip' hp) (by omega), List.length_append, List.length_replicate]; omega
theorem sltP_lays : ∀ (rv : List (List (BitVec 8))) (i : Nat) (A : List (BitVec 8)) (m : Nat), A.length = 8 + 8 * i → (∀ s ∈ rv, rvOk s = true) → 8 * rv.length ≤ m → Lay.lays (A ++ List.replicate m 0#8) (sltP i rv) = A ++ (rv.flatMap sltC ++ List.replicate (m - 8 * rv.length) 0#8)
  | [], i, A, m, _, _, _ => by
    unfold sltP
    rw [Lay.lays_nil]; rfl
  | s :: r, i, A, m, hA, hr, hm => by
    rw [List.length_cons] at hm
    have h8 := (text_back s (hr s List.mem_cons_self)).2
    have e : Lay.lays (A ++ List.replicate m 0#8) (if s = [] then [] else [(8 + 8 * i, Wire.pad s 8)]) = (A ++ sltC s) ++ List.replicate (m - 8) 0#8 := by
      unfold sltC at h8 ⊢
      by_cases hs : s = []
      · rw [if_pos hs, if_pos hs, Lay.lays_nil, List.append_assoc, List.replicate_append_replicate, show 8 + (m - 8) = m by omega]
      · rw [if_neg hs] at h8
        rw [if_neg hs, if_neg hs]
        show Lay.lay (A ++ List.replicate m 0#8) (8 + 8 * i) (Wire.pad s 8) = _
        have := lay_right A (List.replicate m 0#8) (Wire.pad s 8) 0
        rw [hA, Nat.add_zero] at this
        rw [this, lay_zeros, h8, List.append_assoc]
    unfold sltP
    rw [Lay.lays_append, e, sltP_lays r (i + 1) (A ++ sltC s) (m - 8) (by rw [List.length_append, hA, h8]; omega) (fun t ht => hr t (List.mem_cons_of_mem _ ht)) (by omega), List.flatMap_cons, List.length_cons, List.append_assoc, List.append_assoc, show m - 8 - 8 * r.length = m - 8 * (r.length + 1) by omega]
def sltV (x : Slt) : BitVec 8 := BitVec.ofNat 8 (x.act + 16 * x.nxt).toNat
theorem sltH_rng {x : Slt} (h : sltH x = true) : 1 ≤ x.act ∧ x.act ≤ 7 ∧ 0 ≤ x.nxt ∧ x.nxt ≤ 7 := of_decide_eq_true h
theorem sltHd_page {x : Slt} (h : sltH x = true) : pageB 512 (sltHd x) = ([sltV x] ++ List.replicate 7 0#8) ++ List.replicate 504 0#8 := by
  have hr := sltH_rng h
  obtain ⟨v, hv⟩ : ∃ v : Nat, x.act + 16 * x.nxt = (v : Int) := ⟨(x.act + 16 * x.nxt).toNat, by omega⟩
  have hv2 : v ≤ 119 := by omega
  have hn : (BitVec.ofNat 64 v).toNat = v := by rw [BitVec.toNat_ofNat, Nat.mod_eq_of_lt (by omega)]
  have hf := (fit_any (BitVec.ofNat 64 v) 1 (by decide) (by decide) (by rw [hn]; omega)).2
  have hc : Wire.cat (sltHd x) = [sltV x] := by
    unfold sltHd Wire.cat sltV
    rw [hv, Int.toNat_natCast, List.flatMap_cons, List.flatMap_nil, List.append_nil]
    refine hf.trans ?_
    unfold Wire.le
    rw [show List.range 1 = [0] from rfl, List.map_cons, List.map_nil]
    refine congrArg (fun z => [z]) ?_
    apply BitVec.eq_of_toNat_eq
    rw [BitVec.toNat_setWidth, BitVec.toNat_ushiftRight, hn, BitVec.toNat_ofNat]
    show v >>> 0 % 256 = v % 256
    rw [Nat.shiftRight_zero]
  unfold pageB
  rw [hc, List.append_assoc, List.replicate_append_replicate]; rfl
theorem sltB_eq {x : Slt} (hx : x.rv.length = 7) (h : sltOk x = true) : sltB x = [sltV x] ++ (List.replicate 7 0#8 ++ (x.rv.flatMap sltC ++ List.replicate 448 0#8)) := by
  unfold sltOk at h
  rw [Bool.and_eq_true] at h
  obtain ⟨h1, h2⟩ := h
  rw [List.all_eq_true] at h2
  unfold sltB
  rw [sltHd_page h1, sltP_lays x.rv 0 _ 504 rfl h2 (by omega), hx, List.append_assoc]
theorem beq_app {a b c d : List (BitVec 8)} (h : a.length = c.length) : ((a ++ b) == (c ++ d)) = ((a == c) && (b == d)) := by
  rw [Bool.eq_iff_iff, Bool.and_eq_true, beq_iff_eq, beq_iff_eq, beq_iff_eq]
  constructor
  · intro e; exact List.append_inj e h
  · rintro ⟨rfl, rfl⟩; rfl
theorem all_and2 (p q : Nat → Bool) (is : List Nat) : is.all (fun i => p i && q i) = (is.all p && is.all q) := by
  induction is with
  | nil => rfl
  | cons i is ih =>
    rw [List.all_cons, List.all_cons, List.all_cons, ih]
    cases p i <;> cases q i <;> cases is.all p <;> rfl
theorem beq_flat (f g : Nat → List (BitVec 8)) (is : List Nat) (hf : ∀ i ∈ is, (f i).length = 8) (hg : ∀ i ∈ is, (g i).length = 8) : (is.flatMap f == is.flatMap g) = is.all (fun i => f i == g i) := by
  induction is with
  | nil => rfl
  | cons i is ih =>
    rw [List.flatMap_cons, List.flatMap_cons, beq_app (by rw [hf i List.mem_cons_self, hg i List.mem_cons_self]), ih (fun j hj => hf j (List.mem_cons_of_mem _ hj)) (fun j hj => hg j (List.mem_cons_of_mem _ hj)), List.all_cons]
def chk (l : List (BitVec 8)) (i : Nat) : List (BitVec 8) := cut l (8 + 8 * i) 8
theorem chk_len (l : List (BitVec 8)) (hl : l.length = 512) (i : Nat) (hi : i < 7) : (chk l i).length = 8 := cut_len (by omega)
theorem chunks (l : List (BitVec 8)) : ∀ k : Nat, 8 + 8 * k ≤ l.length → l.drop 8 = (List.range k).flatMap (chk l) ++ l.drop (8 + 8 * k)
  | 0, _ => rfl
  | k + 1, h => by
    rw [chunks l k (by omega), List.range_succ, List.flatMap_append, List.flatMap_cons, List.flatMap_nil, List.append_nil, List.append_assoc]
    refine congrArg (_ ++ ·) ?_
    unfold chk cut
    have e2 : (l.drop (8 + 8 * k)).drop 8 = l.drop (8 + 8 * (k + 1)) := by rw [List.drop_drop, show 8 + 8 * k + 8 = 8 + 8 * (k + 1) by omega]
    rw [← e2]
    exact (List.take_append_drop 8 _).symm
theorem l_parts (l : List (BitVec 8)) (hl : l.length = 512) : ∃ y, l[0]? = some y ∧ l = [y] ++ (cut l 1 7 ++ ((List.range 7).flatMap (chk l) ++ l.drop 64)) := by
  match l, hl with
  | y :: r, hl =>
    refine ⟨y, rfl, ?_⟩
    have h := chunks (y :: r) 7 (by rw [hl]; decide)
    have h2 : (y :: r).drop 1 = cut (y :: r) 1 7 ++ (y :: r).drop 8 := by
      have e2 : ((y :: r).drop 1).drop 7 = (y :: r).drop 8 := by rw [List.drop_drop]
      unfold cut
      rw [← e2]
      exact (List.take_append_drop 7 _).symm
    rw [← h, ← h2]; rfl
def sltRd (l : List (BitVec 8)) : Slt := ⟨(((num l 0 1).toNat % 16 : Nat) : Int), (((num l 0 1).toNat / 16 : Nat) : Int), (List.range 7).map fun i => Wire.text (chk l i)⟩
def sltOkB (l : List (BitVec 8)) : Bool := sltOk (sltRd l) && (sltB (sltRd l) == l)
def hdrB (v : Nat) : Bool := (decide (1 ≤ v % 16) && decide (v % 16 ≤ 7)) && decide (v / 16 ≤ 7)
def sltFine (l : List (BitVec 8)) (k : Nat) : Bool := ((hdrB (num l 0 1).toNat && allZ (cut l 1 7)) && allZ (l.drop 64)) && (List.range k).all (fun i => ckR (chk l i))
theorem sltFine_more (l : List (BitVec 8)) (k : Nat) : sltFine l (k + 1) = (sltFine l k && ckR (chk l k)) := by
  unfold sltFine
  rw [List.range_succ, List.all_append, List.all_cons, List.all_nil, Bool.and_true, Bool.and_assoc, Bool.and_assoc, Bool.and_assoc, Bool.and_assoc, Bool.and_assoc]
theorem num_first (l : List (BitVec 8)) (y : BitVec 8) (h : l[0]? = some y) : (num l 0 1).toNat = y.toNat := by
  match l, h with
  | z :: r, h =>
    injection h with h
    subst h
    have e : num (z :: r) 0 1 = Wire.get [z] := rfl
    rw [e, get_consN _ _ (by decide)]
    show _ + 256 * 0 = _
    omega
theorem allZ_beq (l : List (BitVec 8)) (n : Nat) (h : l.length = n) : (List.replicate n 0#8 == l) = allZ l := by
  rw [Bool.eq_iff_iff, beq_iff_eq, allZ_iff, h]
  exact ⟨fun e => e.symm, fun e => e.symm⟩
theorem slt_ok (l : List (BitVec 8)) (hl : l.length = 512) : sltOkB l = sltFine l 7 := by
  obtain ⟨y, hy, hp⟩ := l_parts l hl
  have hn := num_first l y hy
  have hyl := y.isLt
  have hH : sltH (sltRd l) = hdrB (num l 0 1).toNat := by
    unfold sltH hdrB sltRd
    dsimp only
    rw [hn, Bool.eq_iff_iff]
    simp only [Bool.and_eq_true, decide_eq_true_eq]
    omega
  have hrv : ∀ i, i < 7 → (chk l i).length = 8 := fun i hi => chk_len l hl i hi
  have hall : (sltRd l).rv.all rvOk = (List.range 7).all (fun i => rvOk (Wire.text (chk l i))) := by
    unfold sltRd; dsimp only; rw [List.all_map]; rfl
  have hck : (List.range 7).all (fun i => ckR (chk l i)) = ((List.range 7).all (fun i => rvOk (Wire.text (chk l i))) && (List.range 7).all (fun i => sltC (Wire.text (chk l i)) == chk l i)) := by
    rw [← all_and2]
    rw [Bool.eq_iff_iff, List.all_eq_true, List.all_eq_true]
    constructor <;> intro h i hi <;> (have h2 := h i hi; have h3 := ck_eq (chk l i) (hrv i (List.mem_range.1 hi)); unfold ckM at h3)
    · rw [h3]; exact h2
    · rw [← h3]; exact h2
  unfold sltOkB sltFine
  cases ho : sltOk (sltRd l)
  · rw [Bool.false_and]
    unfold sltOk at ho
    rw [hH, hall] at ho
    rw [hck]
    cases h1 : hdrB (num l 0 1).toNat
    · rfl
    · rw [h1, Bool.true_and] at ho
      rw [ho, Bool.false_and, Bool.and_false]
  · rw [Bool.true_and]
    have hb := sltB_eq (x := sltRd l) (by unfold sltRd; dsimp only; rw [List.length_map, List.length_range]) ho
    unfold sltOk at ho
    rw [hH, hall, Bool.and_eq_true] at ho
    have hv : sltV (sltRd l) = y := by
      apply BitVec.eq_of_toNat_eq
      unfold sltV sltRd
      dsimp only
      rw [hn, BitVec.toNat_ofNat, show (((y.toNat % 16 : Nat) : Int) + 16 * ((y.toNat / 16 : Nat) : Int)).toNat = y.toNat by omega, Nat.mod_eq_of_lt hyl]
    have hfl : (sltRd l).rv.flatMap sltC = (List.range 7).flatMap (fun i => sltC (Wire.text (chk l i))) := by
      unfold sltRd; dsimp only; rw [List.flatMap_map]
    rw [hck, ho.1, ho.2, hb, hv, hfl]
    have key : ∀ X : List (BitVec 8), (X == l) = (X == [y] ++ (cut l 1 7 ++ ((List.range 7).flatMap (chk l) ++ l.drop 64))) := fun X => congrArg (fun z => X == z) hp
    rw [key]
    have c7 : (cut l 1 7).length = 7 := cut_len (by omega)
    rw [beq_app rfl, beq_app (by rw [List.length_replicate, c7]), allZ_beq _ 7 c7]
    have f1 : ∀ i ∈ List.range 7, (sltC (Wire.text (chk l i))).length = 8 := fun i hi => (text_len (hrv i (List.mem_range.1 hi))).1
    have f2 : ∀ i ∈ List.range 7, (chk l i).length = 8 := fun i hi => hrv i (List.mem_range.1 hi)
    have hlen : ((List.range 7).flatMap (fun i => sltC (Wire.text (chk l i)))).length = ((List.range 7).flatMap (chk l)).length := by
      rw [List.length_flatMap, List.length_flatMap]
      congr 1
      exact List.map_congr_left (fun i hi => by rw [f1 i hi, f2 i hi])
    rw [beq_app hlen, beq_flat _ _ _ f1 f2, allZ_beq _ 448 (by rw [List.length_drop, hl])]
    simp only [beq_self_eq_true, Bool.true_and]
    cases allZ (cut l 1 7) <;> cases allZ (l.drop 64) <;> cases (List.range 7).all (fun i => sltC (Wire.text (chk l i)) == chk l i) <;> rfl
end Lg
end Go.Proofs.YthnnopjakpjoeaaGreatDoor
namespace Go.Proofs.YthnnopjakpjoeaaGreatDoor
open Go.RowKit Lg
set_option linter.unusedVariables false
set_option linter.unusedSimpArgs false
namespace Lg
def sltZ : Slt := ⟨0, 0, List.replicate 7 []⟩
/-- What is held when k texts have been read. -/
def sltX (l : List (BitVec 8)) (k : Nat) : Slt := { sltRd l with rv := (sltRd l).rv.take k ++ List.replicate (7 - k) [] }
def sltA (l : List (BitVec 8)) (k : Nat) : Array Value := (Slt.cells (sltX l k)).toArray
theorem sltRd_len (l : List (BitVec 8)) : (sltRd l).rv.length = 7 := by unfold sltRd; dsimp only; rw [List.length_map, List.length_range]
theorem sltX_len (l : List (BitVec 8)) (k : Nat) (hk : k ≤ 7) : (sltX l k).rv.length = 7 := by
  unfold sltX; dsimp only; rw [List.length_append, List.length_take, List.length_replicate, sltRd_len]; omega
theorem slt_size (x : Slt) (h : x.rv.length = 7) : (Slt.cells x).toArray.size = 9 := by
  rw [List.size_toArray]; unfold Slt.cells; rw [List.length_cons, List.length_cons, List.length_map, h]
theorem slt_one (x : Slt) : (Slt.cells x).toArray.all (·.oneCell') = true := by
  rw [List.all_toArray]; unfold Slt.cells; simp [strV, Value.oneCell']
theorem sltA_set (l : List (BitVec 8)) (k : Nat) (s : List (BitVec 8)) (hk : k < 7) (hs : Wire.text (chk l k) = s) : (sltA l k).setIfInBounds (2 + k) (.string (strOf s)) = sltA l (k + 1) := by
  have hg : (sltRd l).rv[k]? = some s := by unfold sltRd; dsimp only; rw [List.getElem?_map, List.getElem?_range hk, ← hs]; rfl
  obtain ⟨hkl, hke⟩ := List.getElem?_eq_some_iff.1 hg
  have e1 : (sltX l (k + 1)).rv = (sltX l k).rv.set k s := by
    unfold sltX; dsimp only
    rw [List.take_succ_eq_append_getElem hkl, hke, show 7 - k = (7 - (k + 1)) + 1 by omega, List.replicate_succ, List.append_assoc]
    have hl : ((sltRd l).rv.take k).length = k := by rw [List.length_take, sltRd_len]; omega
    rw [List.set_append_right _ _ (by omega), hl, Nat.sub_self]; rfl
  unfold sltA
  rw [List.setIfInBounds_toArray]
  refine congrArg List.toArray ?_
  unfold Slt.cells
  rw [e1, List.map_set]
  rw [show 2 + k = (k + 1) + 1 by omega, List.set_cons_succ, List.set_cons_succ]; rfl
theorem sltA_seven (l : List (BitVec 8)) : sltA l 7 = (Slt.cells (sltRd l)).toArray := by
  unfold sltA sltX
  rw [List.take_of_length_le (by rw [sltRd_len]; decide), Nat.sub_self, List.replicate_zero, List.append_nil]
theorem sltA_get (l : List (BitVec 8)) (k : Nat) (hk : k < 7) : (sltA l k)[2 + k]? = some (.string (strOf [])) := by
  unfold sltA
  rw [List.getElem?_toArray]
  unfold Slt.cells
  rw [show 2 + k = (k + 1) + 1 by omega, List.getElem?_cons_succ, List.getElem?_cons_succ, List.getElem?_map]
  unfold sltX; dsimp only
  rw [List.getElem?_append_right (by rw [List.length_take]; omega), List.length_take, sltRd_len, Nat.min_eq_left (by omega), Nat.sub_self, List.getElem?_replicate, if_pos (by omega)]; rfl
theorem slt_dec_len {f : List (BitVec 8) → Bool} {l : List (BitVec 8)} {y : Slt} {e : Int} (h : decP 512 sltRd f sltZ l = (y, e)) : y.rv.length = 7 := by
  unfold decP at h
  repeat' (split at h)
  all_goals (cases h)
  all_goals first | rfl | exact sltRd_len l
theorem rd_short (l : List (BitVec 8)) (hl : l.length = 512) : ∀ s ∈ (sltRd l).rv, s.length ≤ 1000000000 := by
  intro s hs
  unfold sltRd at hs; dsimp only at hs
  obtain ⟨i, hi, rfl⟩ := List.mem_map.1 hs
  have := (text_len (chk_len l hl i (List.mem_range.1 hi))).2
  omega
end Lg
theorem rd_chgS {w w' : World} {T : TypeId} {r d Y : Nat} {v : Value} {l : List (BitVec 8)} {n : Nat} (h : RdAt w T r d v l n) (c : Chg (fun b => b = Y) w w') (hY : r < Y) : RdAt w' T r d v l n :=
  ⟨c.blk h.blk (by omega), h.bytes.chg c (fun g o m k e hg => by have h1 := h.old ⟨g, o, none⟩ m k e; have h2 := h.le; simp only at h1; omega), h.small, h.old, h.le⟩
set_option maxHeartbeats 3200000 in
set_option maxRecDepth 20000 in
theorem readSl_at {d : Nat} (p : Nat) (v : Value) (l : List (BitVec 8)) (w : World) (hp : RdAt w 165 p d v l 0) (hl : l.length = 512) :
    Calls Tryz.prog 34 #[.pointer (some ⟨p, 0, none⟩)] w fun e w' => e = .returned (.agg (Slt.cells (sltRd l)).toArray) ∧ Chg (fun b => b = p) w w' := by
  obtain ⟨x0, hx0⟩ : ∃ x, num l 0 1 = x := ⟨_, rfl⟩
  obtain ⟨b0, hb0⟩ : ∃ b : Nat, x0.toNat = b := ⟨_, rfl⟩
  have hb256 : b0 < 256 := by rw [← hb0, ← hx0]; exact num_lt l 0 1 (by omega) (by decide)
  have HU := Lib.hid (show uv x0 = (b0 : Int) by rw [← hb0]; rfl)
  have A0 := Lib.hid (show sltA l 0 = #[.int .i64 ((b0 % 16 : Nat) : Int), .int .i64 ((b0 / 16 : Nat) : Int), .string ⟨#[]⟩, .string ⟨#[]⟩, .string ⟨#[]⟩, .string ⟨#[]⟩, .string ⟨#[]⟩, .string ⟨#[]⟩, .string ⟨#[]⟩] by rw [← hb0, ← hx0]; rfl)
  have AS := Lib.hid (fun (k : Nat) (s : List (BitVec 8)) (hk : k < 7) (hs : Wire.text (chk l k) = s) => sltA_set l k s hk hs)
  have AG := Lib.hid (fun (k : Nat) (hk : k < 7) => sltA_get l k hk)
  have AZ := Lib.hid (slt_size _ (sltX_len l 7 (Nat.le_refl _)))
  have AO := Lib.hid (show (sltA l 7).all (·.oneCell') = true from slt_one _)
  rw [← sltA_seven l]
  replace AZ := Lib.hid (show (sltA l 7).size = 9 from AZ.out)
  obtain ⟨A, hA⟩ : ∃ A, sltA l = A := ⟨_, rfl⟩
  rw [hA] at A0 AS AG AZ AO
  rw [hA]
  clear hA
  have H0 := Lib.hid hx0; have HL := Lib.hid hl
  have PLT := Lib.hid hp.lt
  obtain ⟨w0, hW⟩ : ∃ W, W = w.alloc (.cells #[.int .i64 0, .int .i64 0, .string ⟨#[]⟩, .string ⟨#[]⟩, .string ⟨#[]⟩, .string ⟨#[]⟩, .string ⟨#[]⟩, .string ⟨#[]⟩, .string ⟨#[]⟩] 24) := ⟨_, rfl⟩
  have D := Lib.hid (show Below w.heap.size w w0 by rw [hW]; exact gr_alloc w _)
  have X0 := Lib.hid (show w0.heap[w.heap.size]? = some (.cells #[.int .i64 0, .int .i64 0, .string ⟨#[]⟩, .string ⟨#[]⟩, .string ⟨#[]⟩, .string ⟨#[]⟩, .string ⟨#[]⟩, .string ⟨#[]⟩, .string ⟨#[]⟩] 24 (0, 0)) by rw [hW]; exact heap_alloc_new w _)
  have R0 := Lib.hid (show RdAt w0 165 p d v (l.drop 0) 0 by rw [List.drop_zero]; exact hp.below D.out)
  have NP := Lib.hid (show ¬ w.heap.size = p by have := PLT.out; omega)
  obtain ⟨am, ham⟩ : ∃ a, b0 % 16 = a := ⟨_, rfl⟩
  obtain ⟨nm, hnm⟩ : ∃ a, b0 / 16 = a := ⟨_, rfl⟩
  rw [ham, hnm] at A0
  have hrem : (b0 : Int).tmod 16 = (am : Int) := by rw [← ham]; rfl
  have hquo : (b0 : Int).tdiv 16 = (nm : Int) := by rw [← hnm]; rfl
  have hrem2 : (b0 : Int) % 16 = (am : Int) := by rw [← ham]; rfl
  have hquo2 : (b0 : Int) / 16 = (nm : Int) := by rw [← hnm]; rfl
  have hb9 : (b0 : Int) < 256 := by omega
  have HW := Lib.hid hW
  clear hx0 hb0 hl hp hW ham hnm
  go_enter Tryz.func34, Tryz.ntmps34
  go_upto_region 1 with (fail)
  rw [← HW.out]
  have CC0 := Lib.hid (Chg.of_below (B := fun b => b = p) D.out)
  go_upto_region 2 with (go_at_call 35; go_loud (have hn := next_at p v l 0 0 1 1 x0 w0 rfl R0.out (by decide) (by decide) (by rw [HL.out]; decide) H0.out; rw [HU.out] at hn; refine hn.mono ?_; rintro r w1 ⟨rfl, ⟨v1, hr⟩, hc⟩; have R1 := Lib.hid hr; have C1 := Lib.hid (CC0.out.trans hc); have X1 := Lib.hid (hc.blk X0.out NP.out); clear hr hc))
  go_upto_region 3 with (go_at_call 36; go_loud (refine (skip_at p v1 l 1 1 7 7 w1 rfl R1.out (by rw [HL.out]; decide)).mono ?_; rintro r w2 ⟨rfl, ⟨v2, hr⟩, hc⟩; have R2 := Lib.hid hr; have C2 := Lib.hid (C1.out.trans hc); have X2 := Lib.hid (hc.blk X1.out NP.out); clear hr hc))
  go_upto_region 4 with (fail)
  obtain ⟨w3, hw3⟩ : ∃ x, x = w2.alloc (.cells #[.int .i64 (am : Int), .int .i64 (nm : Int), .string ⟨#[]⟩, .string ⟨#[]⟩, .string ⟨#[]⟩, .string ⟨#[]⟩, .string ⟨#[]⟩, .string ⟨#[]⟩, .string ⟨#[]⟩] 24) := ⟨_, rfl⟩
  have gA := gr_alloc w2 (.cells #[.int .i64 (am : Int), .int .i64 (nm : Int), .string ⟨#[]⟩, .string ⟨#[]⟩, .string ⟨#[]⟩, .string ⟨#[]⟩, .string ⟨#[]⟩, .string ⟨#[]⟩, .string ⟨#[]⟩] 24)
  rw [← hw3] at gA
  have Y3 := Lib.hid (show w3.heap[w2.heap.size]? = some (.cells (A 0) 24 (0, 0)) by rw [hw3, A0.out]; exact heap_alloc_new w2 _)
  have R3 := Lib.hid (R2.out.below gA)
  have C3 := Lib.hid (C2.out.trans (Chg.of_below gA))
  have X3 := Lib.hid (blk_below X2.out gA)
  rw [← hw3]
  obtain ⟨Y, hY⟩ : ∃ Y, w2.heap.size = Y := ⟨_, rfl⟩
  have NE := Lib.hid (show ¬ Y = p ∧ ¬ w.heap.size = Y ∧ w.heap.size ≤ Y ∧ p < Y by
    have h1 := PLT.out; have h2 := C2.out.size; have h3 := (Array.getElem?_eq_some_iff.1 X2.out).1; omega)
  rw [hY] at Y3 ⊢
  clear hY CC0 gA hw3 hrem hquo hrem2 hquo2
  go_upto_region 5 with (fail)
  go_loopw [18] (fun i wr => ∃ k : Nat, k ≤ 7 ∧ i = .int .i64 k ∧ (∃ vk, RdAt wr 165 p d vk (l.drop (8 + 8 * k)) (8 + 8 * k)) ∧ Chg (fun b => b = p) w wr ∧ wr.heap[w.heap.size]? = some (.cells #[.int .i64 0, .int .i64 0, .string ⟨#[]⟩, .string ⟨#[]⟩, .string ⟨#[]⟩, .string ⟨#[]⟩, .string ⟨#[]⟩, .string ⟨#[]⟩, .string ⟨#[]⟩] 24 (0, 0)) ∧ wr.heap[Y]? = some (.cells (A k) 24 (0, 0))) (fun i _ => 7 - (intOf i).toNat)
  case atStart => exact ⟨0, by omega, rfl, ⟨_, R3.out⟩, C3.out, X3.out, Y3.out⟩
  case round =>
    obtain ⟨k, hk, rfl, ⟨va, hr⟩, hb, hx, hy⟩ := hrel
    have Ra := Lib.hid hr; have Ca := Lib.hid hb; have Xa := Lib.hid hx; have Ya := Lib.hid hy; clear hr hb hx hy
    by_cases hlt : k < 7
    · obtain ⟨s, hs⟩ : ∃ s, Wire.text (chk l k) = s := ⟨_, rfl⟩
      have HS := Lib.hid hs
      have SS := Lib.hid (AS.out k s hlt hs)
      have TL := Lib.hid (show ((l.drop (8 + 8 * k)).take 8).length = 8 by rw [List.length_take, List.length_drop, HL.out]; omega)
      clear hs
      have hk0 : (0 : Int) ≤ (k : Int) := by omega
      have hk1 : (k : Int) < 7 := by omega
      go_wp2_with (first
        | (go_at_call 37; go_loud (refine (Take_ok _ p va (l.drop (8 + 8 * k)) _ 8 wr Ra.out (by rw [List.length_drop, HL.out]; omega) (by rw [List.length_drop, HL.out]; omega)).mono ?_; rintro r wb ⟨ub, rfl, ho, ⟨vb, hr⟩, hc⟩; have Ub := Lib.hid (show BytesV wb ub (chk l k) from BytesV.of_own (l := (l.drop (8 + 8 * k)).take 8) (by rw [TL.out]; exact ho)); have Rb := Lib.hid hr; have Cb := Lib.hid (Ca.out.trans hc); have Xb := Lib.hid (hc.blk Xa.out NP.out); have Yb := Lib.hid (hc.blk Ya.out NE.out.1); have yb : wb.cell? ⟨Y, 2 + k, none⟩ = some (.string (strOf [])) := (cell_of_row _ _ _ _ _ _ Yb.out).trans (AG.out k hlt); have fb := frozen_of_row _ _ (2 + k) _ _ Yb.out; clear ho hr hc))
        | (go_at_call 38; go_loud (refine (Text_at ub (chk l k) s _ wb Ub.out (by have := TL.out; unfold chk cut; omega) rfl HS.out).mono ?_; rintro r wz ⟨rfl, rfl⟩)))
      obtain ⟨wc, hwc⟩ : ∃ wc, wc = wb.setCell ⟨Y, 2 + k, none⟩ (.string (strOf s)) := ⟨_, rfl⟩
      have cc : Chg (fun b => b = Y) wb wc := by rw [hwc]; exact Chg.setCell (B := fun b => b = Y) (p := ⟨Y, 2 + k, none⟩) _ rfl _
      have Yc := Lib.hid (show wc.heap[Y]? = some (.cells (A (k + 1)) 24 (0, 0)) by rw [hwc, ← SS.out]; exact heap_setCell_same _ _ _ _ _ _ Yb.out)
      have Xc := Lib.hid (cc.blk Xb.out NE.out.2.1)
      have Cc := Lib.hid (chg_newer Cb.out cc (fun g hg => by subst hg; exact NE.out.2.2.1))
      have Rc := Lib.hid (rd_chgS Rb.out cc NE.out.2.2.2)
      rw [← hwc]
      clear hwc cc yb fb
      go_roundw
      case rel => exact ⟨k + 1, by omega, by go_num, ⟨_, by have h := Rc.out; rwa [List.drop_drop, show 8 + 8 * k + 8 = 8 + 8 * (k + 1) by omega] at h⟩, Cc.out, Xc.out, Yc.out⟩
      case measure => simp [intOf]; omega
    · obtain rfl : k = 7 := by omega
      go_wp2_with (first
        | (refine wpList_load_row rfl 24 (.tmp 4) rfl Y rfl 24 (A 7) (0, 0) _ Ya.out Tryz.underlying24 rfl (by rw [AZ.out]; kernel_rfl) ?_)
        | (refine wpList_store_row rfl 24 (.tmp 2) (.tmp 35) rfl w.heap.size (A 7) rfl rfl 24 _ Xa.out (by rw [AZ.out]; kernel_rfl) (by rw [AZ.out]; rfl) AO.out ?_))
      exact bodyPost_ret (results_cell_row rfl _ _ w.heap.size 24 _ (0, 0) _ rfl (setRow_heap _ _ _ _ _ _ Xa.out) Tryz.underlying24 rfl (by rw [AZ.out]; kernel_rfl)) rfl ⟨rfl, chg_newer Ca.out (Chg.setRow (B := fun b => b = w.heap.size) wr rfl _) (fun g hg => by subst hg; exact Nat.le_refl _)⟩
set_option maxHeartbeats 3200000 in
set_option maxRecDepth 20000 in
theorem decoded_Slt (l : List (BitVec 8)) (bv : Value) (w : World) (y : Slt) (e : Int) (hb : BytesV w bv l) (hl : l.length ≤ 140737488355328) (ht : Lib.TabIs Tryz.prog w "strings.asciiSpace" .u8 Lib.asciiSpaceTab) (hd : decP 512 sltRd sltOkB sltZ l = (y, e)) :
    Calls Tryz.prog 33 #[bv, .int .i64 512, .func (.func 34) #[] #[], .func (.func 6) #[] #[]] w fun r w' => r = .returned (.tuple #[.agg (Slt.cells y).toArray, .int .i64 e]) ∧ Below w.heap.size w w' := by
  obtain ⟨av, cv, rfl, hv0, hv1, hv2, hv3⟩ := id hb
  have hm : l.length ≤ 9223372036854775807 := by omega
  have BV := Lib.hid hb
  have HTAB := Lib.hid ht
  have HLL := Lib.hid hl
  obtain ⟨V, hV⟩ : ∃ V, V = w.alloc (.cells #[.int .i64 0, .int .i64 0, .string ⟨#[]⟩, .string ⟨#[]⟩, .string ⟨#[]⟩, .string ⟨#[]⟩, .string ⟨#[]⟩, .string ⟨#[]⟩, .string ⟨#[]⟩] 24) := ⟨_, rfl⟩
  have DV := Lib.hid (show Below w.heap.size w V by rw [hV]; exact gr_alloc w _)
  have XV := Lib.hid (show V.heap[w.heap.size]? = some (.cells #[.int .i64 0, .int .i64 0, .string ⟨#[]⟩, .string ⟨#[]⟩, .string ⟨#[]⟩, .string ⟨#[]⟩, .string ⟨#[]⟩, .string ⟨#[]⟩, .string ⟨#[]⟩] 24 (0, 0)) by rw [hV]; exact heap_alloc_new w _)
  have VS := Lib.hid (show w.heap.size < V.heap.size by rw [hV]; simp)
  have HV := Lib.hid hV
  have ZS := Lib.hid (show (Slt.cells sltZ).toArray = #[.int .i64 0, .int .i64 0, .string ⟨#[]⟩, .string ⟨#[]⟩, .string ⟨#[]⟩, .string ⟨#[]⟩, .string ⟨#[]⟩, .string ⟨#[]⟩, .string ⟨#[]⟩] from rfl)
  clear hb hv0 hv1 hv2 hv3 hV hl
  unfold decP at hd
  by_cases p1 : l.length < 512
  · rw [if_pos p1] at hd
    cases hd
    rw [ZS.out]
    have d1 : decide ((l.length : Int) < 512) = true := decide_eq_true (by omega)
    have d1b : decide (l.length < 512) = true := decide_eq_true (by omega)
    clear p1
    go_enter Tryz.func33, Tryz.ntmps33
    go_upto_region 1 with (fail)
    rw [← HV.out]
    go_wp2_with (first
      | (refine wpList_load_row rfl 24 (.tmp 8) rfl w.heap.size rfl 24 #[.int .i64 0, .int .i64 0, .string ⟨#[]⟩, .string ⟨#[]⟩, .string ⟨#[]⟩, .string ⟨#[]⟩, .string ⟨#[]⟩, .string ⟨#[]⟩, .string ⟨#[]⟩] (0, 0) _ XV.out Tryz.underlying24 rfl (by kernel_rfl) ?_)
      | (refine wpList_store_row rfl 24 (.tmp 8) (.tmp 18) rfl w.heap.size #[.int .i64 0, .int .i64 0, .string ⟨#[]⟩, .string ⟨#[]⟩, .string ⟨#[]⟩, .string ⟨#[]⟩, .string ⟨#[]⟩, .string ⟨#[]⟩, .string ⟨#[]⟩] rfl rfl 24 _ XV.out (by kernel_rfl) rfl (by simp [Value.oneCell']) ?_))
    exact bodyPost_ret (results_row_tmp rfl _ _ w.heap.size 24 #[.int .i64 0, .int .i64 0, .string ⟨#[]⟩, .string ⟨#[]⟩, .string ⟨#[]⟩, .string ⟨#[]⟩, .string ⟨#[]⟩, .string ⟨#[]⟩, .string ⟨#[]⟩] (0, 0) _ rfl (setRow_heap _ _ _ _ _ _ XV.out) Tryz.underlying24 rfl (by kernel_rfl)) rfl ⟨rfl, below_setRow DV.out (Nat.le_refl _) _⟩
  rw [if_neg p1] at hd
  have d1 : decide ((l.length : Int) < 512) = false := decide_eq_false (by omega)
  have d1b : decide (l.length < 512) = false := decide_eq_false (by omega)
  by_cases p2 : 512 < l.length
  · rw [if_pos p2] at hd
    cases hd
    rw [ZS.out]
    have d2 : decide (512 < (l.length : Int)) = true := decide_eq_true (by omega)
    have d2b : decide (512 < l.length) = true := decide_eq_true (by omega)
    clear p1 p2
    go_enter Tryz.func33, Tryz.ntmps33
    go_upto_region 1 with (fail)
    rw [← HV.out]
    go_wp2_with (first
      | (refine wpList_load_row rfl 24 (.tmp 8) rfl w.heap.size rfl 24 #[.int .i64 0, .int .i64 0, .string ⟨#[]⟩, .string ⟨#[]⟩, .string ⟨#[]⟩, .string ⟨#[]⟩, .string ⟨#[]⟩, .string ⟨#[]⟩, .string ⟨#[]⟩] (0, 0) _ XV.out Tryz.underlying24 rfl (by kernel_rfl) ?_)
      | (refine wpList_store_row rfl 24 (.tmp 8) (.tmp 24) rfl w.heap.size #[.int .i64 0, .int .i64 0, .string ⟨#[]⟩, .string ⟨#[]⟩, .string ⟨#[]⟩, .string ⟨#[]⟩, .string ⟨#[]⟩, .string ⟨#[]⟩, .string ⟨#[]⟩] rfl rfl 24 _ XV.out (by kernel_rfl) rfl (by simp [Value.oneCell']) ?_))
    exact bodyPost_ret (results_row_tmp rfl _ _ w.heap.size 24 #[.int .i64 0, .int .i64 0, .string ⟨#[]⟩, .string ⟨#[]⟩, .string ⟨#[]⟩, .string ⟨#[]⟩, .string ⟨#[]⟩, .string ⟨#[]⟩, .string ⟨#[]⟩] (0, 0) _ rfl (setRow_heap _ _ _ _ _ _ XV.out) Tryz.underlying24 rfl (by kernel_rfl)) rfl ⟨rfl, below_setRow DV.out (Nat.le_refl _) _⟩
  rw [if_neg p2] at hd
  have d2 : decide (512 < (l.length : Int)) = false := decide_eq_false (by omega)
  have d2b : decide (512 < l.length) = false := decide_eq_false (by omega)
  have HL := Lib.hid (show l.length = 512 by omega)
  have HD := Lib.hid hd
  clear p1 p2 hd
  obtain ⟨x, hx⟩ : ∃ x, sltRd l = x := ⟨_, rfl⟩
  have HX := Lib.hid hx
  obtain ⟨cx, hcx⟩ : ∃ c, (Slt.cells x).toArray = c := ⟨_, rfl⟩
  have HCX := Lib.hid hcx
  have SZX := Lib.hid (show cx.size = 9 by rw [← hcx]; exact slt_size x (by rw [← hx]; exact sltRd_len l))
  have ONX := Lib.hid (show cx.all (·.oneCell') = true by rw [← hcx]; exact slt_one x)
  clear hx hcx
  obtain ⟨bo, hbo⟩ : ∃ b, sltOk x = b := ⟨_, rfl⟩
  have HO := Lib.hid hbo; clear hbo
  go_enter Tryz.func33, Tryz.ntmps33
  go_upto_region 1 with (fail)
  rw [← HV.out]
  go_upto_region 6 with (first
    | (go_at_call 70; go_loud (refine (NewReader_any _ l _ (BV.out.below DV.out) HLL.out).mono ?_; rintro r w1 ⟨p, v, rfl, hp, hr, hw⟩; have HP := Lib.hid hp; have R := Lib.hid hr; have D1 := Lib.hid (gr_tr DV.out hw); have DW := Lib.hid hw; clear hp hr hw))
    | (go_at_call 34; go_loud (refine (readSl_at p v l _ R.out HL.out).mono ?_; rw [HX.out, HCX.out]; rintro r w2 ⟨rfl, hc⟩; have D2 := Lib.hid (hc.fresh D1.out (fun k hk => by have h1 := HP.out; have h2 := VS.out; subst hk; omega)); have X2 := Lib.hid (hc.blk (blk_below XV.out DW.out) (fun hk => by have h1 := HP.out; have h2 := VS.out; subst hk; omega)); clear hc))
    | (refine wpList_store_new rfl 24 (.tmp 10) (.tmp 28) rfl cx 24 _ rfl rfl (by rw [SZX.out]; kernel_rfl) (by rw [SZX.out]; rfl) ONX.out ?_; intro w3 hh hw; have Y3 := Lib.hid hh; have D3 := Lib.hid (gr_tr D2.out hw); have X3 := Lib.hid (blk_below X2.out hw); clear hh hw))
  clear d1 d1b d2 d2b
  have B3 := Lib.hid (BV.out.below D3.out)
  cases bo
  · have ENC := fun w ht => EncS_at x 2 [] w (by rw [← HX.out]; exact sltRd_len l) (by rw [← HX.out]; exact rd_short l HL.out) ht (by unfold sltE; rw [HO.out]; rfl) (by unfold sltR; rw [HO.out]; rfl)
    rw [HCX.out] at ENC
    go_wp2_with (first
      | (refine wpList_load_row rfl 24 (.tmp 10) rfl w2.heap.size rfl 24 cx (0, 0) _ Y3.out Tryz.underlying24 rfl (by rw [SZX.out]; kernel_rfl) ?_)
      | (go_at_call 6; go_loud (refine (ENC _ (tab_below HTAB.out D3.out)).mono ?_; rintro r w4 ⟨u, rfl, hu, hw⟩; have D4 := Lib.hid (gr_tr D3.out hw); have X4 := Lib.hid (blk_below X3.out hw); clear hu hw))
      | (refine wpList_load_row rfl 24 (.tmp 8) rfl w.heap.size rfl 24 #[.int .i64 0, .int .i64 0, .string ⟨#[]⟩, .string ⟨#[]⟩, .string ⟨#[]⟩, .string ⟨#[]⟩, .string ⟨#[]⟩, .string ⟨#[]⟩, .string ⟨#[]⟩] (0, 0) _ X4.out Tryz.underlying24 rfl (by kernel_rfl) ?_)
      | (refine wpList_store_row rfl 24 (.tmp 8) (.tmp 43) rfl w.heap.size #[.int .i64 0, .int .i64 0, .string ⟨#[]⟩, .string ⟨#[]⟩, .string ⟨#[]⟩, .string ⟨#[]⟩, .string ⟨#[]⟩, .string ⟨#[]⟩, .string ⟨#[]⟩] rfl rfl 24 _ X4.out (by kernel_rfl) rfl (by simp [Value.oneCell']) ?_))
    obtain ⟨e1, e2⟩ : y = sltZ ∧ e = 6 := by
      have h := HD.out
      unfold sltOkB at h
      rw [HX.out, HO.out] at h
      simp at h
      exact ⟨h.1.symm, h.2.symm⟩
    rw [e1, e2, ZS.out]
    exact bodyPost_ret (results_row_tmp rfl _ _ w.heap.size 24 #[.int .i64 0, .int .i64 0, .string ⟨#[]⟩, .string ⟨#[]⟩, .string ⟨#[]⟩, .string ⟨#[]⟩, .string ⟨#[]⟩, .string ⟨#[]⟩, .string ⟨#[]⟩] (0, 0) _ rfl (setRow_heap _ _ _ _ _ _ X4.out) Tryz.underlying24 rfl (by kernel_rfl)) rfl ⟨rfl, below_setRow D4.out (Nat.le_refl _) _⟩
  have ENC := fun w ht => EncS_at x 0 (sltB x) w (by rw [← HX.out]; exact sltRd_len l) (by rw [← HX.out]; exact rd_short l HL.out) ht (by unfold sltE; rw [HO.out]; rfl) (by unfold sltR; rw [HO.out]; rfl)
  rw [HCX.out] at ENC
  obtain ⟨bq, hbq⟩ : ∃ b, (sltB x == l) = b := ⟨_, rfl⟩
  have HQ := Lib.hid hbq; clear hbq
  obtain ⟨NB, hNB⟩ : ∃ B, sltB x = B := ⟨_, rfl⟩
  rw [hNB] at ENC
  have HNB := Lib.hid hNB
  clear hNB
  cases bq
  · have HQN := Lib.hid (show (NB == l) = false by rw [← HNB.out]; exact HQ.out)
    go_wp2_with (first
      | (refine wpList_load_row rfl 24 (.tmp 10) rfl w2.heap.size rfl 24 cx (0, 0) _ Y3.out Tryz.underlying24 rfl (by rw [SZX.out]; kernel_rfl) ?_)
      | (go_at_call 6; go_loud (refine (ENC _ (tab_below HTAB.out D3.out)).mono ?_; rintro r w4 ⟨u, rfl, hu, hw⟩; have U := Lib.hid (hu); have B4 := Lib.hid (B3.out.below hw); have D4 := Lib.hid (gr_tr D3.out hw); have X4 := Lib.hid (blk_below X3.out hw); clear hu hw))
      | (go_at_call 71; go_loud (refine (eqB_at _ _ _ _ _ _ U.out B4.out HQN.out).mono ?_; rintro r w5 ⟨rfl, rfl⟩))
      | (refine wpList_load_row rfl 24 (.tmp 8) rfl w.heap.size rfl 24 #[.int .i64 0, .int .i64 0, .string ⟨#[]⟩, .string ⟨#[]⟩, .string ⟨#[]⟩, .string ⟨#[]⟩, .string ⟨#[]⟩, .string ⟨#[]⟩, .string ⟨#[]⟩] (0, 0) _ X4.out Tryz.underlying24 rfl (by kernel_rfl) ?_)
      | (refine wpList_store_row rfl 24 (.tmp 8) (.tmp 43) rfl w.heap.size #[.int .i64 0, .int .i64 0, .string ⟨#[]⟩, .string ⟨#[]⟩, .string ⟨#[]⟩, .string ⟨#[]⟩, .string ⟨#[]⟩, .string ⟨#[]⟩, .string ⟨#[]⟩] rfl rfl 24 _ X4.out (by kernel_rfl) rfl (by simp [Value.oneCell']) ?_))
    obtain ⟨e1, e2⟩ : y = sltZ ∧ e = 6 := by
      have h := HD.out
      unfold sltOkB at h
      rw [HX.out, HO.out, HQ.out] at h
      simp at h
      exact ⟨h.1.symm, h.2.symm⟩
    rw [e1, e2, ZS.out]
    exact bodyPost_ret (results_row_tmp rfl _ _ w.heap.size 24 #[.int .i64 0, .int .i64 0, .string ⟨#[]⟩, .string ⟨#[]⟩, .string ⟨#[]⟩, .string ⟨#[]⟩, .string ⟨#[]⟩, .string ⟨#[]⟩, .string ⟨#[]⟩] (0, 0) _ rfl (setRow_heap _ _ _ _ _ _ X4.out) Tryz.underlying24 rfl (by kernel_rfl)) rfl ⟨rfl, below_setRow D4.out (Nat.le_refl _) _⟩
  · have HQN := Lib.hid (show (NB == l) = true by rw [← HNB.out]; exact HQ.out)
    go_wp2_with (first
      | (refine wpList_load_row rfl 24 (.tmp 10) rfl w2.heap.size rfl 24 cx (0, 0) _ Y3.out Tryz.underlying24 rfl (by rw [SZX.out]; kernel_rfl) ?_)
      | (go_at_call 6; go_loud (refine (ENC _ (tab_below HTAB.out D3.out)).mono ?_; rintro r w4 ⟨u, rfl, hu, hw⟩; have U := Lib.hid (hu); have B4 := Lib.hid (B3.out.below hw); have D4 := Lib.hid (gr_tr D3.out hw); have X4 := Lib.hid (blk_below X3.out hw); have Y4 := Lib.hid (blk_below Y3.out hw); clear hu hw))
      | (go_at_call 71; go_loud (refine (eqB_at _ _ _ _ _ _ U.out B4.out HQN.out).mono ?_; rintro r w5 ⟨rfl, rfl⟩))
      | (refine wpList_load_row rfl 24 (.tmp 10) rfl w2.heap.size rfl 24 cx (0, 0) _ Y4.out Tryz.underlying24 rfl (by rw [SZX.out]; kernel_rfl) ?_)
      | (refine wpList_store_row rfl 24 (.tmp 8) (.tmp 44) rfl w.heap.size cx rfl rfl 24 _ X4.out (by rw [SZX.out]; kernel_rfl) (by rw [SZX.out]; rfl) ONX.out ?_))
    obtain ⟨e1, e2⟩ : y = x ∧ e = 0 := by
      have h := HD.out
      unfold sltOkB at h
      rw [HX.out, HO.out, HQ.out] at h
      simp at h
      exact ⟨h.1.symm, h.2.symm⟩
    rw [e1, e2, HCX.out]
    exact bodyPost_ret (results_row_tmp rfl _ _ w.heap.size 24 cx (0, 0) _ rfl (setRow_heap _ _ _ _ _ _ X4.out) Tryz.underlying24 rfl (by rw [SZX.out]; kernel_rfl)) rfl ⟨rfl, below_setRow D4.out (Nat.le_refl _) _⟩
set_option maxHeartbeats 1600000 in
set_option maxRecDepth 20000 in
theorem Decode_Slt (l : List (BitVec 8)) (bv : Value) (w : World) (y : Slt) (e : Int) (hb : BytesV w bv l) (hl : l.length ≤ 140737488355328) (ht : Lib.TabIs Tryz.prog w "strings.asciiSpace" .u8 Lib.asciiSpaceTab) (hd : decP 512 sltRd sltOkB sltZ l = (y, e)) :
    Calls Tryz.prog 8 #[bv] w fun r w' => r = .returned (.tuple #[.agg (Slt.cells y).toArray, .int .i64 e]) ∧ Below w.heap.size w w' := by
  have HTAB := Lib.hid ht
  have BV := Lib.hid hb; have HL := Lib.hid hl; have HD := Lib.hid hd
  obtain ⟨V, hV⟩ : ∃ V, V = w.alloc (.cells #[.int .i64 0, .int .i64 0, .string ⟨#[]⟩, .string ⟨#[]⟩, .string ⟨#[]⟩, .string ⟨#[]⟩, .string ⟨#[]⟩, .string ⟨#[]⟩, .string ⟨#[]⟩] 24) := ⟨_, rfl⟩
  have DV := Lib.hid (show Below w.heap.size w V by rw [hV]; exact gr_alloc w _)
  have XV := Lib.hid (show V.heap[w.heap.size]? = some (.cells #[.int .i64 0, .int .i64 0, .string ⟨#[]⟩, .string ⟨#[]⟩, .string ⟨#[]⟩, .string ⟨#[]⟩, .string ⟨#[]⟩, .string ⟨#[]⟩, .string ⟨#[]⟩] 24 (0, 0)) by rw [hV]; exact heap_alloc_new w _)
  have HV := Lib.hid hV
  obtain ⟨cy, hcy⟩ : ∃ c, (Slt.cells y).toArray = c := ⟨_, rfl⟩
  have HCY := Lib.hid hcy
  have SZY := Lib.hid (show cy.size = 9 by rw [← hcy]; exact slt_size y (slt_dec_len hd))
  have ONY := Lib.hid (show cy.all (·.oneCell') = true by rw [← hcy]; exact slt_one y)
  rw [hcy]
  clear hb hl hd hV hcy
  go_enter Tryz.func8, Tryz.ntmps8
  go_upto_region 1 with (fail)
  rw [← HV.out]
  go_wp2_with (first
    | (go_at_call 33; go_loud (refine (decoded_Slt l _ _ y e (BV.out.below DV.out) HL.out (tab_below HTAB.out DV.out) HD.out).mono ?_; rw [HCY.out]; rintro r w3 ⟨rfl, hw⟩; have D3 := Lib.hid (gr_tr DV.out hw); have X3 := Lib.hid (blk_below XV.out hw); clear hw))
    | (refine wpList_store_row rfl 24 (.tmp 2) (.tmp 6) rfl w.heap.size cy rfl rfl 24 _ X3.out (by rw [SZY.out]; kernel_rfl) (by rw [SZY.out]; rfl) ONY.out ?_))
  exact bodyPost_ret (results_row_tmp rfl _ _ w.heap.size 24 cy (0, 0) _ rfl (setRow_heap _ _ _ _ _ _ X3.out) Tryz.underlying24 rfl (by rw [SZY.out]; kernel_rfl)) rfl ⟨rfl, below_setRow D3.out (Nat.le_refl _) _⟩
end Go.Proofs.YthnnopjakpjoeaaGreatDoor
namespace Go.Proofs.YthnnopjakpjoeaaGreatDoor
open Go.RowKit
set_option linter.unusedVariables false
set_option linter.unusedSimpArgs false
theorem all_take {α : Type} (p : α → Bool) (l : List α) (k : Nat) (x : α) (h : l[k]? = some x) : (l.take (k + 1)).all p = ((l.take k).all p && p x) := by
  obtain ⟨hk, rfl⟩ := List.getElem?_eq_some_iff.1 h
  rw [List.take_succ_eq_append_getElem hk, List.all_append]; simp
theorem all_miss {α : Type} (p : α → Bool) (l : List α) (k : Nat) (x : α) (h : l[k]? = some x) (hp : p x = false) : l.all p = false := by
  obtain ⟨hk, rfl⟩ := List.getElem?_eq_some_iff.1 h
  rw [List.all_eq_false]; exact ⟨_, List.getElem_mem hk, by simpa using hp⟩
theorem rPlain_any (v : Value) (l : List (BitVec 8)) (b : Bool) (w : World) (hv : BytesV w v l) (hb : Wire.plain l = b) :
    Calls Tryz.prog 69 #[v] w fun e w' => e = .returned (.bool b) ∧ w = w' := by
  subst hb
  obtain ⟨a, c, rfl, -, hc, hm, hrow⟩ := hv
  have HROW := Lib.hid hrow; clear hrow
  have hm' : l.length ≤ 9223372036854775807 := by omega
  unfold Wire.plain
  go_enter Tryz.func69, Tryz.ntmps69
  go_wp2
  go_loop [3] (fun i => ∃ k : Nat, k ≤ l.length ∧ i = .int .i64 k ∧ Hid ((l.take k).all Wire.plainB = true)) (fun i => l.length - (intOf i).toNat)
  case atStart => exact ⟨0, by omega, rfl, rfl⟩
  case round =>
    obtain ⟨k, hk, rfl, hE⟩ := hrel
    by_cases hlt : k < l.length
    · obtain ⟨x, hx⟩ : ∃ x, l[k]? = some x := ⟨l[k], List.getElem?_eq_getElem hlt⟩
      obtain ⟨b, o, rfl, hcell⟩ := HROW.out.at (i := k) (v := .int .u8 (uv x)) (by rw [by8_get, hx]; rfl)
      have HS := Lib.hid (all_take Wire.plainB l k x hx)
      have HH := Lib.hid (all_miss Wire.plainB l k x hx)
      clear hx
      by_cases h32 : uv x < 32
      · have hz : Wire.plainB x = false := by unfold Wire.plainB; simp; omega
        have HZ := Lib.hid hz; clear hz
        have d1 : decide (uv x < 32) = true := decide_eq_true h32
        clear h32
        go_wp2
        go_ret
        exact ⟨by rw [HH.out HZ.out]; rfl, rfl⟩
      · have d1 : decide (uv x < 32) = false := decide_eq_false h32
        by_cases h126 : 126 < uv x
        · have hz : Wire.plainB x = false := by unfold Wire.plainB; simp; omega
          have HZ := Lib.hid hz; clear hz
          have d2 : decide (126 < uv x) = true := decide_eq_true h126
          clear h32 h126
          go_wp2
          go_ret
          exact ⟨by rw [HH.out HZ.out]; rfl, rfl⟩
        · have hz : Wire.plainB x = true := by unfold Wire.plainB; simp; omega
          have HZ := Lib.hid hz; clear hz
          have d2 : decide (126 < uv x) = false := decide_eq_false h126
          clear h32 h126
          go_wp2
          go_round
          case rel => exact ⟨k + 1, by omega, by go_num, Lib.hid (by rw [HS.out, hE.out, HZ.out]; rfl)⟩
          case measure => simp [intOf]; omega
    · obtain rfl : k = l.length := by omega
      have h1 := hE.out
      rw [List.take_length] at h1
      have H1 := Lib.hid h1; clear h1
      go_wp2
      go_ret
      exact ⟨by rw [H1.out]; rfl, rfl⟩
end Go.Proofs.YthnnopjakpjoeaaGreatDoor
namespace Go.Proofs.YthnnopjakpjoeaaGreatDoor
open Go.RowKit Lg
set_option linter.unusedVariables false
set_option linter.unusedSimpArgs false
theorem run_str_at (l : List (BitVec 8)) (k : Nat) (y : BitVec 8) (h : l[k]? = some y) (w : World) : (Instr.index 9 (.string (strOf l)) (.int .i64 k)).run Tryz.prog w = .ok (.int .u8 (uv y)) w := by
  obtain ⟨hk, rfl⟩ := List.getElem?_eq_some_iff.1 h
  have hs : (strOf l).size = l.length := str_size l
  rw [run_index_string (P := Tryz.prog) w 9 (strOf l) .i64 k Tryz.underlying9, dif_pos ⟨by omega, by rw [hs]; omega⟩]
  have e : ((strOf l)[(k : Int).toNat]'(by rw [hs]; simpa using hk)).toNat = (l[k]).toNat := by
    simp [strOf, ByteArray.getElem_eq_getElem_data]
  rw [e]; rfl
theorem uv_ne32 (y : BitVec 8) : (!(some y == some 32#8)) = (uv y != 32) := by
  rw [show (32 : Int) = uv 32#8 from rfl, uv_bne]; rfl
set_option maxRecDepth 20000 in
set_option maxHeartbeats 1600000 in
theorem rrev_at (s : List (BitVec 8)) (b : Bool) (w : World) (hb : revOk s = b) (hs : s.length ≤ 1000000) :
    Calls Tryz.prog 32 #[.string (strOf s)] w fun e w' => e = .returned (.bool b) ∧ Below w.heap.size w w' := by
  obtain ⟨v, w1, hrun, hown, hbw⟩ := conv_bytes w s (by omega)
  have O := Lib.hid hown; have B := Lib.hid hbw; clear hown hbw
  have hsz : (strOf s).size = s.length := str_size s
  have HB := Lib.hid hb; clear hb
  by_cases h1 : s.length ≤ 8
  · have d1 : decide ((8 : Int) < s.length) = false := decide_eq_false (by omega)
    have d1b : decide (8 < s.length) = false := decide_eq_false (by omega)
    cases h2 : Wire.plain s
    · have HP := Lib.hid h2
      obtain rfl : b = false := by rw [← HB.out]; unfold revOk; rw [h2]; simp
      clear h1 h2
      go_enter Tryz.func32, Tryz.ntmps32
      go_wp2_with (go_at_call 69; go_loud (refine (rPlain_any _ s false _ O.out.bytes HP.out).mono ?_; rintro r w' ⟨rfl, rfl⟩))
      go_ret
      exact ⟨rfl, B.out⟩
    · have HP := Lib.hid h2
      by_cases h3 : s = []
      · subst h3
        obtain rfl : b = true := by rw [← HB.out]; rfl
        clear h1 h2
        have hl0 : ([] : List (BitVec 8)).length = 0 := rfl
        rw [hl0] at hsz
        go_enter Tryz.func32, Tryz.ntmps32
        go_wp2_with (go_at_call 69; go_loud (refine (rPlain_any _ [] true _ O.out.bytes HP.out).mono ?_; rintro r w' ⟨rfl, rfl⟩))
        go_ret
        exact ⟨rfl, B.out⟩
      · have hpos : 0 < s.length := List.length_pos_iff.2 h3
        obtain ⟨x, hx⟩ : ∃ y, s[0]? = some y := ⟨_, List.getElem?_eq_getElem hpos⟩
        obtain ⟨y, hy⟩ : ∃ y, s[s.length - 1]? = some y := ⟨_, List.getElem?_eq_getElem (by omega)⟩
        have hi := run_str_at s (s.length - 1) y hy
        have hi0 : ∀ w : World, (Instr.index 9 (.string (strOf s)) (.int .i64 0)).run Tryz.prog w = .ok (.int .u8 (uv x)) w := fun w => run_str_at s 0 x hx w
        have hcast : ((s.length - 1 : Nat) : Int) = (s.length : Int) - 1 := by omega
        rw [hcast] at hi
        have hne : ((s.length : Int) == 0) = false := by simpa using h3
        have hb2 : b = ((uv x != 32) && (uv y != 32)) := by
          rw [← HB.out, ← uv_ne32, ← uv_ne32]
          unfold revOk ends
          have he : s.isEmpty = false := by cases s with | nil => exact absurd rfl h3 | cons a t => rfl
          rw [h2, decide_eq_true h1, he, List.head?_eq_getElem?, List.getLast?_eq_getElem?, hx, hy]; rfl
        have ws : IntKind.i64.wrap ((s.length : Int) - 1) = (s.length : Int) - 1 := by
          unfold IntKind.wrap; simp [IntKind.bits, IntKind.signed]; omega
        obtain ⟨z, hz⟩ : ∃ z, (uv x != 32) = z := ⟨_, rfl⟩
        obtain ⟨z2, hz2⟩ : ∃ z, (uv y != 32) = z := ⟨_, rfl⟩
        rw [hz, hz2] at hb2
        subst hb2
        clear h1 h2 h3 hy hx hcast
        cases z
        · go_enter Tryz.func32, Tryz.ntmps32
          go_wp2_with (go_at_call 69; go_loud (refine (rPlain_any _ s true _ O.out.bytes HP.out).mono ?_; rintro r w' ⟨rfl, rfl⟩))
          go_ret
          exact ⟨rfl, B.out⟩
        · go_enter Tryz.func32, Tryz.ntmps32
          go_wp2_with (go_at_call 69; go_loud (refine (rPlain_any _ s true _ O.out.bytes HP.out).mono ?_; rintro r w' ⟨rfl, rfl⟩))
          go_ret
          exact ⟨rfl, B.out⟩
  · have d1 : decide ((8 : Int) < s.length) = true := decide_eq_true (by omega)
    have d1b : decide (8 < s.length) = true := decide_eq_true (by omega)
    obtain rfl : b = false := by rw [← HB.out]; unfold revOk; rw [decide_eq_false h1]; rfl
    clear h1
    go_enter Tryz.func32, Tryz.ntmps32
    go_wp2
    go_ret
    exact ⟨rfl, Below.refl _ _⟩
theorem OwnN.chgS {N : Nat} {B : Nat → Prop} {w w' : World} {base g cap : Nat} {l : List (BitVec 8)} (h : OwnN N w base g cap l) (c : Chg B w w') (hn : ¬ B g) : OwnN N w' base g cap l := own_chg h c (fun k hk => by cases hk; exact hn)
namespace Lg
theorem pad_get {s : List (BitVec 8)} (h : revOk s = true) (j : Nat) (hj : j < 8) : (Wire.pad s 8).length = 8 ∧ (Wire.pad s 8)[j]? = some (if h2 : j < s.length then s[j] else 32#8) := by
  unfold revOk at h
  rw [Bool.and_eq_true, Bool.and_eq_true] at h
  have hl := of_decide_eq_true h.1
  rw [pad_eq h.2.1 hl]
  constructor
  · rw [List.length_append, List.length_replicate]; omega
  · by_cases h2 : j < s.length
    · rw [dif_pos h2, List.getElem?_append_left h2, List.getElem?_eq_getElem h2]
    · rw [dif_neg h2, List.getElem?_append_right (by omega), List.getElem?_replicate, if_pos (by omega)]
theorem set_hd (n : Nat) (y : BitVec 8) : (List.replicate (n + 1) 0#8).set 0 y = [y] ++ List.replicate n 0#8 := by rw [List.replicate_succ]; rfl
theorem sltP_len {rv : List (List (BitVec 8))} (h : rv.all rvOk = true) (hl : rv.length ≤ 7) : ∀ q ∈ sltP 0 rv, q.1 + q.2.length ≤ 512 := by
  have key : ∀ (r : List (List (BitVec 8))) (i : Nat), r.all rvOk = true → i + r.length ≤ 7 → ∀ q ∈ sltP i r, q.1 + q.2.length ≤ 512 := by
    intro r
    induction r with
    | nil => intro i _ _ q hq; exact absurd hq (by unfold sltP; simp)
    | cons s r ih =>
      intro i ha hi q hq
      rw [List.all_cons, Bool.and_eq_true] at ha
      rw [List.length_cons] at hi
      unfold sltP at hq
      rcases List.mem_append.1 hq with h1 | h1
      · by_cases hs : s = []
        · rw [if_pos hs] at h1; exact absurd h1 (by simp)
        · rw [if_neg hs] at h1
          rw [List.mem_singleton] at h1
          subst h1
          have := (pad_get (by rw [← rv_eq]; exact ha.1) 0 (by decide)).1
          show 8 + 8 * i + (Wire.pad s 8).length ≤ 512
          omega
      · exact ih (i + 1) ha.2 (by omega) q h1
  exact key rv 0 h (by omega)
end Lg
set_option maxHeartbeats 6400000 in
set_option maxRecDepth 20000 in
theorem rEncSl_at (x : Slt) (e : Int) (B : List (BitVec 8)) (w : World) (hx : x.rv.length = 7) (hr : ∀ s ∈ x.rv, s.length ≤ 1000000) (he : sltE x = e) (hB : sltR x = B) :
    Calls Tryz.prog 7 #[.agg (Slt.cells x).toArray] w fun r w' => ∃ u, r = .returned (.tuple #[u, .int .i64 e]) ∧ BytesV w' u B ∧ Below w.heap.size w w' := by
  have HR := Lib.hid hr
  have HX := Lib.hid hx
  have HE0 := Lib.hid he; have HB0 := Lib.hid hB
  have HCS := Lib.hid (fun (h : sltOk x = true) => sltB_eq hx h)
  have HPG := Lib.hid (fun (h : sltH x = true) => sltHd_page h)
  obtain ⟨A, N, rv⟩ := x
  dsimp only at hx hr
  unfold sltE at he
  unfold sltR at hB
  unfold sltOk sltH at he hB
  dsimp only at he hB
  obtain ⟨W, hW⟩ : ∃ W, W = w.alloc (.cells (Slt.cells ⟨A, N, rv⟩).toArray 24) := ⟨_, rfl⟩
  have D := Lib.hid (show Below w.heap.size w W by rw [hW]; exact gr_alloc w _)
  have X := Lib.hid (show W.heap[w.heap.size]? = some (.cells (Slt.cells ⟨A, N, rv⟩).toArray 24 (0, 0)) by rw [hW]; exact heap_alloc_new w _)
  have p0 : W.cell? ⟨w.heap.size, 0, none⟩ = some (.int .i64 A) := (cell_of_row _ _ 0 _ _ _ X.out).trans rfl
  have p1 : W.cell? ⟨w.heap.size, 1, none⟩ = some (.int .i64 N) := (cell_of_row _ _ 1 _ _ _ X.out).trans rfl
  have HW := Lib.hid hW
  have SV := Lib.hid (fun (k : Nat) (s : List (BitVec 8)) (h : rv[k]? = some s) => show (Slt.cells ⟨A, N, rv⟩).toArray[2 + k]? = some (.string (strOf s)) by
    rw [List.getElem?_toArray]; unfold Slt.cells
    rw [show 2 + k = (k + 1) + 1 by omega, List.getElem?_cons_succ, List.getElem?_cons_succ, List.getElem?_map, h]; rfl)
  obtain ⟨cx, hcx⟩ : ∃ c, (Slt.cells ⟨A, N, rv⟩).toArray = c := ⟨_, rfl⟩
  rw [hcx] at X SV HW ⊢
  have CX0 := Lib.hid (show cx[0]? = some (.int .i64 A) by rw [← hcx]; rfl)
  have CX1 := Lib.hid (show cx[1]? = some (.int .i64 N) by rw [← hcx]; rfl)
  clear hW hcx hr
  by_cases a1 : A < 1
  · have d1 : decide (A < 1) = true := decide_eq_true a1
    rw [decide_eq_false (by omega : ¬ (1 ≤ A ∧ A ≤ 7 ∧ 0 ≤ N ∧ N ≤ 7)), Bool.false_and] at he hB
    simp only [Bool.false_eq_true, if_false] at he hB
    subst he; subst hB
    clear a1 HE0 HB0 HCS HPG
    go_enter Tryz.func7, Tryz.ntmps7
    go_upto_region 1 with (fail)
    rw [← HW.out]
    go_wp2
    go_ret2
    exact ⟨_, rfl, BytesV.nil _, D.out⟩
  have d1 : decide (A < 1) = false := decide_eq_false a1
  by_cases a2 : 7 < A
  · have d2 : decide (7 < A) = true := decide_eq_true a2
    rw [decide_eq_false (by omega : ¬ (1 ≤ A ∧ A ≤ 7 ∧ 0 ≤ N ∧ N ≤ 7)), Bool.false_and] at he hB
    simp only [Bool.false_eq_true, if_false] at he hB
    subst he; subst hB
    clear a1 a2 HE0 HB0 HCS HPG
    go_enter Tryz.func7, Tryz.ntmps7
    go_upto_region 1 with (fail)
    rw [← HW.out]
    go_wp2
    go_ret2
    exact ⟨_, rfl, BytesV.nil _, D.out⟩
  have d2 : decide (7 < A) = false := decide_eq_false a2
  by_cases a3 : N < 0
  · have d3 : decide (N < 0) = true := decide_eq_true a3
    rw [decide_eq_false (by omega : ¬ (1 ≤ A ∧ A ≤ 7 ∧ 0 ≤ N ∧ N ≤ 7)), Bool.false_and] at he hB
    simp only [Bool.false_eq_true, if_false] at he hB
    subst he; subst hB
    clear a1 a2 a3 HE0 HB0 HCS HPG
    go_enter Tryz.func7, Tryz.ntmps7
    go_upto_region 1 with (fail)
    rw [← HW.out]
    go_wp2
    go_ret2
    exact ⟨_, rfl, BytesV.nil _, D.out⟩
  have d3 : decide (N < 0) = false := decide_eq_false a3
  by_cases a4 : 7 < N
  · have d4 : decide (7 < N) = true := decide_eq_true a4
    rw [decide_eq_false (by omega : ¬ (1 ≤ A ∧ A ≤ 7 ∧ 0 ≤ N ∧ N ≤ 7)), Bool.false_and] at he hB
    simp only [Bool.false_eq_true, if_false] at he hB
    subst he; subst hB
    clear a1 a2 a3 a4 HE0 HB0 HCS HPG
    go_enter Tryz.func7, Tryz.ntmps7
    go_upto_region 1 with (fail)
    rw [← HW.out]
    go_wp2
    go_ret2
    exact ⟨_, rfl, BytesV.nil _, D.out⟩
  have d4 : decide (7 < N) = false := decide_eq_false a4
  rw [decide_eq_true (by omega : 1 ≤ A ∧ A ≤ 7 ∧ 0 ≤ N ∧ N ≤ 7), Bool.true_and] at he hB
  obtain ⟨v, hv⟩ : ∃ v, A + 16 * N = (v : Nat) := ⟨(A + 16 * N).toNat, by omega⟩
  have HV := Lib.hid (show 1 ≤ v ∧ v ≤ 119 by omega)
  have hA1 : 1 ≤ A := by omega
  have hA2 : A ≤ 7 := by omega
  have hN1 : 0 ≤ N := by omega
  have hN2 : N ≤ 7 := by omega
  have hS := HPG.out (decide_eq_true (by dsimp only; omega))
  have L0 := Lib.hid (show (List.replicate 512 0#8).set 0 (BitVec.ofNat 8 v) = pageB 512 (sltHd ⟨A, N, rv⟩) by
    rw [hS, set_hd 511, List.append_assoc, List.replicate_append_replicate]
    unfold sltV; dsimp only; rw [hv, Int.toNat_natCast])
  obtain ⟨PB, hPB⟩ : ∃ P, pageB 512 (sltHd ⟨A, N, rv⟩) = P := ⟨_, rfl⟩
  rw [hPB] at L0
  have HPB := Lib.hid hPB
  have PBL := Lib.hid (show PB.length = 512 by rw [← L0.out, List.length_set, List.length_replicate])
  have HE := Lib.hid he
  have HB := Lib.hid (show (if rv.all rvOk = true then Lay.lays PB (sltP 0 rv) else []) = B by rw [← hB, ← hPB]; rfl)
  clear a1 a2 a3 a4 he hB hS hPB HE0 HB0 HCS HPG
  go_enter Tryz.func7, Tryz.ntmps7
  go_upto_region 1 with (fail)
  rw [← HW.out]
  go_upto_region 4 with (refine make_law bytesOk rfl _ _ rfl W.heap.size .i64 .i64 512 512 512 rfl rfl rfl rfl (by omega) (by omega) (Nat.le_refl _) ?_; intro w2 hown hgrow; have O2 := Lib.hid (show OwnN 512 w2 W.heap.size W.heap.size 512 (List.replicate 512 0#8) by have h := hown; rw [by8_made] at h; exact h); have B2 := Lib.hid ((Below.refl W.heap.size W).grown hgrow (Nat.le_refl _) (by intro k hk; cases hk)); clear hown hgrow)
  clear d1 d2 d3 d4 p0 p1
  have X2 := Lib.hid (blk_below X.out B2.out)
  have a0 : w2.cell? ⟨w.heap.size, 0, none⟩ = some (.int .i64 A) := (cell_of_row _ _ 0 _ _ _ X2.out).trans CX0.out
  have a1 : w2.cell? ⟨w.heap.size, 1, none⟩ = some (.int .i64 N) := (cell_of_row _ _ 1 _ _ _ X2.out).trans CX1.out
  have g0 : w2.cell? ⟨W.heap.size, 0, none⟩ = some (.int .u8 0) := by rw [World.ownsRow.cellAt O2.out 0 (by decide), by8_get]; rfl
  have f0 := World.ownsRow.frozenAt O2.out 0
  go_upto_region 5 with (fail)
  obtain ⟨w3, hw3⟩ : ∃ w3, w3 = w2.setCell ⟨W.heap.size, 0, none⟩ (.int .u8 (uv (BitVec.ofNat 8 v))) := ⟨_, rfl⟩
  have c3 : Chg (fun b => b = W.heap.size) w2 w3 := by rw [hw3]; exact Chg.setCell (B := fun b => b = W.heap.size) (p := ⟨W.heap.size, 0, none⟩) _ rfl _
  have LT := Lib.hid (show w.heap.size < W.heap.size from (Array.getElem?_eq_some_iff.1 X.out).1)
  have O3 := Lib.hid (show OwnN 512 w3 W.heap.size W.heap.size 512 PB by rw [hw3, ← L0.out]; exact O2.out.set 0 _)
  have X3 := Lib.hid (c3.blk X2.out (by have := LT.out; omega))
  have B3 := Lib.hid (B2.out.trans (c3.below (fun q hq => by subst hq; exact Nat.le_refl _) B2.out.size))
  rw [← hw3]
  clear hw3 c3 a0 a1 g0 f0 L0 CX0 CX1
  have HXX := Lib.hid (show rv.length = 7 from hx)
  clear hx
  go_upto_region 6 with (fail)
  go_loopw [5] (fun i wr => ∃ k : Nat, k ≤ 7 ∧ i = .int .i64 k ∧ OwnN 512 wr W.heap.size W.heap.size 512 (Lay.lays PB (sltP 0 (rv.take k))) ∧ (rv.take k).all rvOk = true ∧ wr.heap[w.heap.size]? = some (.cells cx 24 (0, 0)) ∧ Below W.heap.size W wr) (fun i _ => 7 - (intOf i).toNat)
  case atStart => exact ⟨0, by omega, rfl, by rw [List.take_zero]; exact O3.out, by rw [List.take_zero]; rfl, X3.out, B3.out⟩
  case round =>
    obtain ⟨k, hk, rfl, ho, hz, hxx, hb⟩ := hrel
    have O6 := Lib.hid ho; have X6 := Lib.hid hxx; have B6 := Lib.hid hb; have Z6 := Lib.hid hz; clear ho hxx hb hz
    by_cases hlt : k < 7
    · obtain ⟨s, hs⟩ : ∃ s, rv[k]? = some s := ⟨_, List.getElem?_eq_getElem (by rw [HXX.out]; exact hlt)⟩
      have HS := Lib.hid hs
      have HSL := Lib.hid (show s.length ≤ 1000000 from HR.out s (List.mem_of_getElem? hs))
      have cs : wr.cell? ⟨w.heap.size, 2 + k, none⟩ = some (.string (strOf s)) := (cell_of_row _ _ _ _ _ _ X6.out).trans (SV.out k s hs)
      have ALL := Lib.hid (show (rv.take (k + 1)).all rvOk = rvOk s by
        obtain ⟨h5, rfl⟩ := List.getElem?_eq_some_iff.1 hs
        rw [List.take_succ_eq_append_getElem h5, List.all_append, Z6.out, Bool.true_and, List.all_cons, List.all_nil, Bool.and_true])
      have PP := Lib.hid (show sltP 0 (rv.take (k + 1)) = sltP 0 (rv.take k) ++ (if s = [] then [] else [(8 + 8 * k, Wire.pad s 8)]) by
        obtain ⟨h5, rfl⟩ := List.getElem?_eq_some_iff.1 hs
        rw [List.take_succ_eq_append_getElem h5, sltP_snoc, List.length_take, Nat.min_eq_left (by omega), Nat.zero_add])
      have hk0 : (0 : Int) ≤ (k : Int) := by omega
      have hk1 : (k : Int) < 7 := by omega
      clear hs
      obtain ⟨ok, hok⟩ : ∃ b, rvOk s = b := ⟨_, rfl⟩
      have HOK := Lib.hid hok
      have HRV := Lib.hid (show revOk s = ok by rw [← rv_eq]; exact hok)
      clear hok
      cases ok
      · have hal : rv.all rvOk = false := by
          cases h : rv.all rvOk
          · rfl
          · have h2 : rvOk s = true := (List.all_eq_true.1 h) s (List.mem_of_getElem? HS.out)
            rw [HOK.out] at h2; cases h2
        have he := HE.out; have hB := HB.out
        rw [hal] at he hB
        simp only [Bool.false_eq_true, if_false] at he hB
        subst he; subst hB
        clear hal
        go_wp2_with (go_at_call 32; go_loud (refine (rrev_at s false wr HRV.out HSL.out).mono ?_; rintro r w8 ⟨rfl, hw⟩; have B8 := Lib.hid (gr_tr B6.out hw); clear hw))
        go_ret2
        exact ⟨_, rfl, BytesV.nil _, gr_tr D.out B8.out⟩
      · obtain ⟨L, hL⟩ : ∃ L, Lay.lays PB (sltP 0 (rv.take k)) = L := ⟨_, rfl⟩
        rw [hL] at O6
        have NX := Lib.hid (show Lay.lays PB (sltP 0 (rv.take (k + 1))) = (if s = [] then L else Lay.lay L (8 + 8 * k) (Wire.pad s 8)) by
          rw [PP.out, Lay.lays_append, hL]
          by_cases h : s = []
          · rw [if_pos h, if_pos h, Lay.lays_nil]
          · rw [if_neg h, if_neg h]; rfl)
        have LL := Lib.hid (show L.length = 512 from O6.out.len)
        have PG := Lib.hid (fun (j : Nat) (hj : j < 8) => pad_get HRV.out j hj)
        have SL8 := Lib.hid (show s.length ≤ 8 by have h := HRV.out; unfold revOk at h; rw [Bool.and_eq_true] at h; exact of_decide_eq_true h.1)
        have hsz : (strOf s).size = s.length := str_size s
        have HSZ := Lib.hid hsz
        clear hL hsz
        go_upto_region 12 with (go_at_call 32; go_loud (refine (rrev_at s true wr HRV.out HSL.out).mono ?_; rintro r w8 ⟨rfl, hw⟩; have B8 := Lib.hid (gr_tr B6.out hw); have O8 := Lib.hid (O6.out.below hw); have X8 := Lib.hid (blk_below X6.out hw); clear hw))
        clear cs O6 X6
        go_loopw [7] (fun i wx => ∃ j : Nat, j ≤ 8 ∧ i = .int .i64 j ∧ (s = [] → j = 0) ∧ OwnN 512 wx W.heap.size W.heap.size 512 (Lay.lay L (8 + 8 * k) ((Wire.pad s 8).take j)) ∧ wx.heap[w.heap.size]? = some (.cells cx 24 (0, 0)) ∧ Below W.heap.size W wx) (fun i _ => 8 - (intOf i).toNat)
        case atStart => exact ⟨0, by omega, rfl, fun _ => rfl, by rw [List.take_zero, Lay.lay_nil]; exact O8.out, X8.out, B8.out⟩
        case round =>
          obtain ⟨j, hj, rfl, hj0, ho, hxx, hb⟩ := hrel
          have O9 := Lib.hid ho; have X9 := Lib.hid hxx; have B9 := Lib.hid hb; have J0 := Lib.hid hj0; clear ho hxx hb hj0
          by_cases hgo : j < 8 ∧ s ≠ []
          · obtain ⟨hj8, hne⟩ := hgo
            have hpos : 0 < s.length := List.length_pos_iff.2 hne
            have HNE := Lib.hid hne
            obtain ⟨M, hM⟩ : ∃ M, 8 + 8 * k + j = M := ⟨_, rfl⟩
            have hM512 : M < 512 := by omega
            have HM := Lib.hid hM
            obtain ⟨PL, PE⟩ := PG.out j hj8
            have HPL := Lib.hid PL; have HPE := Lib.hid PE
            have hMi : (8 : Int) + 8 * (k : Int) + (j : Int) = (M : Int) := by omega
            have hM0 : (0 : Int) ≤ (M : Int) := by omega
            have hM1 : (M : Int) < 512 := by omega
            have hj1 : (j : Int) < 8 := by omega
            have dj : decide ((j : Int) < 8) = true := decide_eq_true hj1
            have djb : decide (j < 8) = true := decide_eq_true hj8
            have ds : decide ((0 : Int) < (s.length : Int)) = true := decide_eq_true (by omega)
            have dsb : decide (0 < s.length) = true := decide_eq_true hpos
            have hsz := HSZ.out
            obtain ⟨z, hz⟩ : ∃ z, (Lay.lay L (8 + 8 * k) ((Wire.pad s 8).take j))[M]? = some z := ⟨_, List.getElem?_eq_getElem (by rw [O9.out.len]; exact hM512)⟩
            have gM : wr.cell? ⟨W.heap.size, M, none⟩ = some (.int .u8 (uv z)) := by rw [World.ownsRow.cellAt O9.out M (by omega), by8_get, hz]; rfl
            have fM := World.ownsRow.frozenAt O9.out M
            clear hz hM PL PE hne
            go_upto_region 15 with (fail)
            obtain ⟨w5, hw5⟩ : ∃ x, x = wr.setCell ⟨W.heap.size, M, none⟩ (.int .u8 32) := ⟨_, rfl⟩
            have c5 : Chg (fun b => b = W.heap.size) wr w5 := by rw [hw5]; exact Chg.setCell (B := fun b => b = W.heap.size) (p := ⟨W.heap.size, M, none⟩) _ rfl _
            have TJ := Lib.hid (show ((Wire.pad s 8).take j).length = j by rw [List.length_take, HPL.out]; omega)
            have SN := Lib.hid (fun y => Lay.lay_snoc (l := L) (x := (Wire.pad s 8).take j) (p := 8 + 8 * k) y (by rw [TJ.out, LL.out]; omega))
            have O5 := Lib.hid (show OwnN 512 w5 W.heap.size W.heap.size 512 (Lay.lay L (8 + 8 * k) ((Wire.pad s 8).take j ++ [32#8])) by
              have h := O9.out.set M 32#8
              rw [← HM.out] at h
              have h2 := SN.out 32#8
              rw [TJ.out] at h2
              rw [h2] at h
              rw [hw5, ← HM.out]; exact h)
            have X5 := Lib.hid (c5.blk X9.out (by have := LT.out; omega))
            have B5 := Lib.hid (B9.out.trans (c5.below (fun q hq => by subst hq; exact Nat.le_refl _) B9.out.size))
            rw [← hw5]
            clear hw5 c5 gM fM
            by_cases hjs : j < s.length
            · obtain ⟨y, hy⟩ : ∃ y, s[j]? = some y := ⟨_, List.getElem?_eq_getElem hjs⟩
              have hi := run_str_at s j y hy
              have djs : decide ((j : Int) < (s.length : Int)) = true := decide_eq_true (by omega)
              have djsb : decide (j < s.length) = true := decide_eq_true hjs
              have NXT := Lib.hid (show (Wire.pad s 8).take (j + 1) = (Wire.pad s 8).take j ++ [y] by
                obtain ⟨h5, h6⟩ := List.getElem?_eq_some_iff.1 HPE.out
                rw [List.take_succ_eq_append_getElem h5, h6, dif_pos hjs]
                obtain ⟨h7, h8⟩ := List.getElem?_eq_some_iff.1 hy
                rw [h8])
              have gM : w5.cell? ⟨W.heap.size, M, none⟩ = some (.int .u8 (uv 32#8)) := by
                rw [World.ownsRow.cellAt O5.out M (by omega), by8_get, ← HM.out, ← SN.out, TJ.out, List.getElem?_set_self (by rw [Lay.lay_len (by rw [TJ.out, LL.out]; omega), LL.out]; omega)]; rfl
              have fM := World.ownsRow.frozenAt O5.out M
              clear hy hjs
              go_wp2
              obtain ⟨w6, hw6⟩ : ∃ x, x = w5.setCell ⟨W.heap.size, M, none⟩ (.int .u8 (uv y)) := ⟨_, rfl⟩
              have c6 : Chg (fun b => b = W.heap.size) w5 w6 := by rw [hw6]; exact Chg.setCell (B := fun b => b = W.heap.size) (p := ⟨W.heap.size, M, none⟩) _ rfl _
              have O6 := Lib.hid (show OwnN 512 w6 W.heap.size W.heap.size 512 (Lay.lay L (8 + 8 * k) ((Wire.pad s 8).take (j + 1))) by
                have h := O5.out.set M y
                have h2 := SN.out 32#8
                have h3 := SN.out y
                rw [TJ.out] at h2 h3
                rw [← h2, ← HM.out, List.set_set, h3, ← NXT.out] at h
                rw [hw6, ← HM.out]; exact h)
              have X6 := Lib.hid (c6.blk X5.out (by have := LT.out; omega))
              have B6b := Lib.hid (B5.out.trans (c6.below (fun q hq => by subst hq; exact Nat.le_refl _) B5.out.size))
              rw [← hw6]
              clear hw6 c6 gM fM
              go_roundw
              case rel => exact ⟨j + 1, by omega, by go_num, fun h => absurd h HNE.out, O6.out, X6.out, B6b.out⟩
              case measure => simp [intOf]; omega
            · have djs : decide ((j : Int) < (s.length : Int)) = false := decide_eq_false (by omega)
              have djsb : decide (j < s.length) = false := decide_eq_false hjs
              have NXT := Lib.hid (show (Wire.pad s 8).take (j + 1) = (Wire.pad s 8).take j ++ [32#8] by
                obtain ⟨h5, h6⟩ := List.getElem?_eq_some_iff.1 HPE.out
                rw [List.take_succ_eq_append_getElem h5, h6, dif_neg hjs])
              clear hjs
              go_wp2
              go_roundw
              case rel => exact ⟨j + 1, by omega, by go_num, fun h => absurd h HNE.out, by rw [NXT.out]; exact O5.out, X5.out, B5.out⟩
              case measure => simp [intOf]; omega
          · have OE := Lib.hid (show OwnN 512 wr W.heap.size W.heap.size 512 (Lay.lays PB (sltP 0 (rv.take (k + 1)))) by
              rw [NX.out]
              by_cases h : s = []
              · have h1 := J0.out h
                rw [if_pos h]
                have h2 := O9.out
                rwa [h1, List.take_zero, Lay.lay_nil] at h2
              · have h1 : j = 8 := by
                  rcases Nat.lt_or_ge j 8 with h3 | h3
                  · exact absurd ⟨h3, h⟩ hgo
                  · omega
                rw [if_neg h]
                have h2 := O9.out
                rw [h1, List.take_of_length_le (by rw [(PG.out 0 (by decide)).1]; decide)] at h2
                exact h2)
            have hsz := HSZ.out
            by_cases hj8 : j < 8
            · have hs0 : s.length = 0 := by
                rcases Nat.eq_zero_or_pos s.length with h | h
                · exact h
                · exact absurd ⟨hj8, List.length_pos_iff.1 h⟩ hgo
              have dj : decide ((j : Int) < 8) = true := decide_eq_true (by omega)
              have djb : decide (j < 8) = true := decide_eq_true hj8
              rw [hs0] at hsz
              have hal := ALL.out.trans HOK.out
              have HAL := Lib.hid hal
              clear hgo hj8 hs0 hal
              go_wp2
              go_roundw
              case rel => exact ⟨k + 1, by omega, by go_num, OE.out, HAL.out, X9.out, B9.out⟩
              case measure => simp [intOf]; omega
            · have dj : decide ((j : Int) < 8) = false := decide_eq_false (by omega)
              have djb : decide (j < 8) = false := decide_eq_false hj8
              have hal := ALL.out.trans HOK.out
              have HAL := Lib.hid hal
              clear hgo hj8 hal
              go_wp2
              go_roundw
              case rel => exact ⟨k + 1, by omega, by go_num, OE.out, HAL.out, X9.out, B9.out⟩
              case measure => simp [intOf]; omega
    · obtain rfl : k = 7 := by omega
      have htk : rv.take 7 = rv := List.take_of_length_le (by rw [HXX.out]; decide)
      have hal : rv.all rvOk = true := by have h := Z6.out; rwa [htk] at h
      have he := HE.out; have hB := HB.out
      rw [hal] at he hB
      simp only [if_true] at he hB
      subst he
      have OB := Lib.hid (show OwnN 512 wr W.heap.size W.heap.size 512 B by rw [← hB]; have h := O6.out; rwa [htk] at h)
      clear hB hal htk
      go_wp2
      go_ret2
      exact ⟨_, rfl, OB.out.bytes, gr_tr D.out B6.out⟩
end Go.Proofs.YthnnopjakpjoeaaGreatDoor
namespace Go.Proofs.YthnnopjakpjoeaaGreatDoor
open Go.RowKit Lg
set_option linter.unusedVariables false
set_option linter.unusedSimpArgs false
namespace Lg
def sltRv (l : List (BitVec 8)) : List (List (BitVec 8)) := (List.range 7).map fun i => rvR (chk l i)
def sltXR (l : List (BitVec 8)) (k : Nat) : Slt := { sltRd l with rv := (sltRv l).take k ++ List.replicate (7 - k) [] }
def sltAR (l : List (BitVec 8)) (k : Nat) : Array Value := (Slt.cells (sltXR l k)).toArray
theorem sltRv_len (l : List (BitVec 8)) : (sltRv l).length = 7 := by unfold sltRv; rw [List.length_map, List.length_range]
theorem sltRv_get (l : List (BitVec 8)) (k : Nat) (hk : k < 7) : (sltRv l)[k]? = some (rvR (chk l k)) := by unfold sltRv; rw [List.getElem?_map, List.getElem?_range hk]; rfl
theorem sltXR_len (l : List (BitVec 8)) (k : Nat) (hk : k ≤ 7) : (sltXR l k).rv.length = 7 := by
  unfold sltXR; dsimp only; rw [List.length_append, List.length_take, List.length_replicate, sltRv_len]; omega
theorem sltAR_set (l : List (BitVec 8)) (k : Nat) (s : List (BitVec 8)) (hk : k < 7) (hs : rvR (chk l k) = s) : (sltAR l k).setIfInBounds (2 + k) (.string (strOf s)) = sltAR l (k + 1) := by
  have hg : (sltRv l)[k]? = some s := by rw [sltRv_get l k hk, hs]
  obtain ⟨hkl, hke⟩ := List.getElem?_eq_some_iff.1 hg
  have e1 : (sltXR l (k + 1)).rv = (sltXR l k).rv.set k s := by
    unfold sltXR; dsimp only
    rw [List.take_succ_eq_append_getElem hkl, hke, show 7 - k = (7 - (k + 1)) + 1 by omega, List.replicate_succ, List.append_assoc]
    have hl : ((sltRv l).take k).length = k := by rw [List.length_take, sltRv_len]; omega
    rw [List.set_append_right _ _ (by omega), hl, Nat.sub_self]; rfl
  unfold sltAR
  rw [List.setIfInBounds_toArray]
  refine congrArg List.toArray ?_
  unfold Slt.cells
  rw [e1, List.map_set]
  rw [show 2 + k = (k + 1) + 1 by omega, List.set_cons_succ, List.set_cons_succ]; rfl
theorem sltAR_nil (l : List (BitVec 8)) (k : Nat) (hk : k < 7) (hs : rvR (chk l k) = []) : sltAR l k = sltAR l (k + 1) := by
  have hg : (sltRv l)[k]? = some [] := by rw [sltRv_get l k hk, hs]
  obtain ⟨hkl, hke⟩ := List.getElem?_eq_some_iff.1 hg
  have e1 : (sltXR l (k + 1)).rv = (sltXR l k).rv := by
    unfold sltXR; dsimp only
    rw [List.take_succ_eq_append_getElem hkl, hke, show 7 - k = (7 - (k + 1)) + 1 by omega, List.replicate_succ, List.append_assoc]; rfl
  unfold sltAR Slt.cells
  rw [e1]; rfl
theorem sltAR_get (l : List (BitVec 8)) (k : Nat) (hk : k < 7) : (sltAR l k)[2 + k]? = some (.string (strOf [])) := by
  unfold sltAR
  rw [List.getElem?_toArray]
  unfold Slt.cells
  rw [show 2 + k = (k + 1) + 1 by omega, List.getElem?_cons_succ, List.getElem?_cons_succ, List.getElem?_map]
  unfold sltXR; dsimp only
  rw [List.getElem?_append_right (by rw [List.length_take]; omega), List.length_take, sltRv_len, Nat.min_eq_left (by omega), Nat.sub_self, List.getElem?_replicate, if_pos (by omega)]; rfl
theorem sltAR_got (l : List (BitVec 8)) (k : Nat) (hk : k < 7) : (sltAR l (k + 1))[2 + k]? = some (.string (strOf (rvR (chk l k)))) := by
  rw [← sltAR_set l k _ hk rfl, Array.getElem?_setIfInBounds_self_of_lt]
  have := (Array.getElem?_eq_some_iff.1 (sltAR_get l k hk)).1
  exact this
theorem sltAR_fine (l : List (BitVec 8)) (hl : l.length = 512) (h : sltFine l 7 = true) : sltAR l 7 = (Slt.cells (sltRd l)).toArray := by
  unfold sltFine at h
  rw [Bool.and_eq_true, List.all_eq_true] at h
  have e : sltRv l = (sltRd l).rv := by
    unfold sltRv sltRd
    dsimp only
    exact List.map_congr_left fun i hi => rv_same _ (chk_len l hl i (List.mem_range.1 hi)) (h.2 i hi)
  unfold sltAR sltXR
  rw [e, List.take_of_length_le (by rw [sltRd_len]; decide), Nat.sub_self, List.replicate_zero, List.append_nil]
theorem rstrip_take (t : List (BitVec 8)) (n : Nat) (hn : n ≤ t.length) (hs : ∀ i, n ≤ i → i < t.length → t[i]? = some 32#8) (he : n = 0 ∨ t[n - 1]? ≠ some 32#8) : Wire.rstrip t = t.take n := by
  have hd : t.drop n = List.replicate (t.length - n) 32#8 := by
    apply List.ext_getElem?
    intro i
    rw [List.getElem?_drop, List.getElem?_replicate]
    by_cases h : i < t.length - n
    · rw [if_pos h]; exact hs (n + i) (by omega) (by omega)
    · rw [if_neg h, List.getElem?_eq_none (by omega)]
  have e : t = t.take n ++ List.replicate (t.length - n) 32#8 := by rw [← hd, List.take_append_drop]
  have hr : ∀ (m : Nat) (l : List (BitVec 8)), (List.replicate m 32#8 ++ l).dropWhile (· == 32#8) = l.dropWhile (· == 32#8) := fun m l => by
    induction m with
    | zero => rfl
    | succ m ih => rw [List.replicate_succ, List.cons_append, List.dropWhile_cons]; exact ih
  unfold Wire.rstrip
  conv => lhs; rw [e]
  rw [List.reverse_append, List.reverse_replicate, hr, dropWhile_id _ _ (fun x hx => beq_eq_false_iff_ne.2 (fun ex => by
    rw [List.head?_reverse, List.getLast?_eq_getElem?, List.length_take, Nat.min_eq_left hn] at hx
    rcases he with h0 | h0
    · rw [h0, List.take_zero] at hx; simp at hx
    · have hn0 : 0 < n := by
        rcases Nat.eq_zero_or_pos n with h1 | h1
        · rw [h1, List.take_zero] at hx; simp at hx
        · exact h1
      rw [List.getElem?_take_of_lt (by omega)] at hx
      exact h0 (by rw [hx, ex]))), List.reverse_reverse]
end Lg
theorem byt_ltD {w : World} {v : Value} {l : List (BitVec 8)} (h : BytesV w v l) (hl : 0 < l.length) : ∀ g o n c, v = .slice (some ⟨g, o, none⟩) n c → g < w.heap.size := by
  intro g o n c e
  obtain ⟨y, hy⟩ : ∃ y, l[0]? = some y := ⟨_, List.getElem?_eq_getElem hl⟩
  obtain ⟨a, c', rfl, -, -, -, hr⟩ := h
  injection e with e1 e2 e3
  subst e1
  obtain ⟨b, o', e4, hc⟩ := hr.at (by rw [by8_get, hy]; rfl)
  injection e4 with e4; injection e4 with e4 e5
  subst e4
  exact block_lt_of_cell hc
set_option maxHeartbeats 6400000 in
set_option maxRecDepth 20000 in
theorem rDecSl_at (l : List (BitVec 8)) (bv : Value) (w : World) (y : Slt) (e : Int) (hb : BytesV w bv l) (hl : l.length ≤ 5000) (hd : decP 512 sltRd (fun l => sltFine l 7) sltZ l = (y, e)) :
    Calls Tryz.prog 9 #[bv] w fun r w' => r = .returned (.tuple #[.agg (Slt.cells y).toArray, .int .i64 e]) ∧ Below w.heap.size w w' := by
  have BV := Lib.hid hb
  obtain ⟨V, hV⟩ : ∃ V, V = w.alloc (.cells #[.int .i64 0, .int .i64 0, .string ⟨#[]⟩, .string ⟨#[]⟩, .string ⟨#[]⟩, .string ⟨#[]⟩, .string ⟨#[]⟩, .string ⟨#[]⟩, .string ⟨#[]⟩] 24) := ⟨_, rfl⟩
  have DV := Lib.hid (show Below w.heap.size w V by rw [hV]; exact gr_alloc w _)
  have XV := Lib.hid (show V.heap[w.heap.size]? = some (.cells #[.int .i64 0, .int .i64 0, .string ⟨#[]⟩, .string ⟨#[]⟩, .string ⟨#[]⟩, .string ⟨#[]⟩, .string ⟨#[]⟩, .string ⟨#[]⟩, .string ⟨#[]⟩] 24 (0, 0)) by rw [hV]; exact heap_alloc_new w _)
  have VS := Lib.hid (show w.heap.size < V.heap.size by rw [hV]; simp)
  have HV := Lib.hid hV
  have ZS := Lib.hid (show (Slt.cells sltZ).toArray = #[.int .i64 0, .int .i64 0, .string ⟨#[]⟩, .string ⟨#[]⟩, .string ⟨#[]⟩, .string ⟨#[]⟩, .string ⟨#[]⟩, .string ⟨#[]⟩, .string ⟨#[]⟩] from rfl)
  clear hV
  unfold decP at hd
  by_cases p1 : l.length < 512
  · rw [if_pos p1] at hd
    cases hd
    rw [ZS.out]
    have HE := Lib.hid (show chkE l 512 = 4 by unfold chkE; rw [if_pos p1])
    clear p1
    go_enter Tryz.func9, Tryz.ntmps9
    go_upto_region 1 with (fail)
    rw [← HV.out]
    go_wp2_with (first
      | (go_at_call 39; go_loud (refine (check23 _ l 512 512 4 _ rfl (BV.out.below DV.out) (HE.out)).mono ?_; rintro r w1 ⟨rfl, rfl⟩))
      | (refine wpList_store_row rfl 24 (.tmp 2) (.tmp 14) rfl w.heap.size #[.int .i64 0, .int .i64 0, .string ⟨#[]⟩, .string ⟨#[]⟩, .string ⟨#[]⟩, .string ⟨#[]⟩, .string ⟨#[]⟩, .string ⟨#[]⟩, .string ⟨#[]⟩] rfl rfl 24 _ XV.out (by kernel_rfl) rfl (by simp [Value.oneCell']) ?_))
    exact bodyPost_ret (results_row_tmp rfl _ _ w.heap.size 24 #[.int .i64 0, .int .i64 0, .string ⟨#[]⟩, .string ⟨#[]⟩, .string ⟨#[]⟩, .string ⟨#[]⟩, .string ⟨#[]⟩, .string ⟨#[]⟩, .string ⟨#[]⟩] (0, 0) _ rfl (setRow_heap _ _ _ _ _ _ XV.out) Tryz.underlying24 rfl (by kernel_rfl)) rfl ⟨rfl, below_setRow DV.out (Nat.le_refl _) _⟩
  rw [if_neg p1] at hd
  by_cases p2 : 512 < l.length
  · rw [if_pos p2] at hd
    cases hd
    rw [ZS.out]
    have HE := Lib.hid (show chkE l 512 = 5 by unfold chkE; rw [if_neg p1, if_pos p2])
    clear p1 p2
    go_enter Tryz.func9, Tryz.ntmps9
    go_upto_region 1 with (fail)
    rw [← HV.out]
    go_wp2_with (first
      | (go_at_call 39; go_loud (refine (check23 _ l 512 512 5 _ rfl (BV.out.below DV.out) (HE.out)).mono ?_; rintro r w1 ⟨rfl, rfl⟩))
      | (refine wpList_store_row rfl 24 (.tmp 2) (.tmp 14) rfl w.heap.size #[.int .i64 0, .int .i64 0, .string ⟨#[]⟩, .string ⟨#[]⟩, .string ⟨#[]⟩, .string ⟨#[]⟩, .string ⟨#[]⟩, .string ⟨#[]⟩, .string ⟨#[]⟩] rfl rfl 24 _ XV.out (by kernel_rfl) rfl (by simp [Value.oneCell']) ?_))
    exact bodyPost_ret (results_row_tmp rfl _ _ w.heap.size 24 #[.int .i64 0, .int .i64 0, .string ⟨#[]⟩, .string ⟨#[]⟩, .string ⟨#[]⟩, .string ⟨#[]⟩, .string ⟨#[]⟩, .string ⟨#[]⟩, .string ⟨#[]⟩] (0, 0) _ rfl (setRow_heap _ _ _ _ _ _ XV.out) Tryz.underlying24 rfl (by kernel_rfl)) rfl ⟨rfl, below_setRow DV.out (Nat.le_refl _) _⟩
  rw [if_neg p2] at hd
  have HL := Lib.hid (show l.length = 512 by omega)
  have HD := Lib.hid hd
  have HL5 := Lib.hid hl
  clear p1 p2 hd hl
  obtain ⟨y0, hy0⟩ : ∃ z, l[0]? = some z := ⟨_, List.getElem?_eq_getElem (by rw [HL.out]; decide)⟩
  obtain ⟨b0, hb0⟩ : ∃ b : Nat, y0.toNat = b := ⟨_, rfl⟩
  have hb256 : b0 < 256 := by rw [← hb0]; exact y0.isLt
  have hnf := (num_first l y0 hy0).trans hb0
  obtain ⟨am, ham⟩ : ∃ a, b0 % 16 = a := ⟨_, rfl⟩
  obtain ⟨nm, hnm⟩ : ∃ a, b0 / 16 = a := ⟨_, rfl⟩
  have A0 := Lib.hid (show sltAR l 0 = #[.int .i64 (am : Int), .int .i64 (nm : Int), .string ⟨#[]⟩, .string ⟨#[]⟩, .string ⟨#[]⟩, .string ⟨#[]⟩, .string ⟨#[]⟩, .string ⟨#[]⟩, .string ⟨#[]⟩] by
    rw [← ham, ← hnm, ← hnf]; rfl)
  obtain ⟨g, o, cv, rfl⟩ := BV.out.shapeAt (by rw [HL.out]; decide)
  have A0C := Lib.hid (show V.cell? ⟨g, o, none⟩ = some (.int .u8 (b0 : Int)) by
    have h := (BV.out.below DV.out).cellAt hy0
    rw [show uv y0 = (b0 : Int) by rw [← hb0]; rfl] at h
    exact h)
  have GL := Lib.hid (byt_ltD BV.out (by rw [HL.out]; decide) g o _ cv rfl)
  have AS := Lib.hid (fun (k : Nat) (s : List (BitVec 8)) (hk : k < 7) (hs : rvR (chk l k) = s) => sltAR_set l k s hk hs)
  have AN := Lib.hid (fun (k : Nat) (hk : k < 7) (hs : rvR (chk l k) = []) => sltAR_nil l k hk hs)
  have AG := Lib.hid (fun (k : Nat) (hk : k < 7) => sltAR_get l k hk)
  have AT := Lib.hid (fun (k : Nat) (hk : k < 7) => sltAR_got l k hk)
  have AZ := Lib.hid (show (sltAR l 7).size = 9 from slt_size _ (sltXR_len l 7 (Nat.le_refl _)))
  have AO := Lib.hid (show (sltAR l 7).all (·.oneCell') = true from slt_one _)
  have AF := Lib.hid (sltAR_fine l HL.out)
  obtain ⟨A, hA⟩ : ∃ A, sltAR l = A := ⟨_, rfl⟩
  rw [hA] at A0 AS AN AG AT AZ AO AF
  clear hA
  obtain ⟨s1, hu1, hr1, -⟩ := BV.out.cut (P := Tryz.prog) (T := 25) Tryz.underlying25 bszU 1 8 (by omega) (by rw [HL.out]; decide)
  rw [List.drop_take, show (l.drop 1).take (8 - 1) = cut l 1 7 from rfl] at hu1
  obtain ⟨s9, hu9, hr9⟩ := BV.out.cutl (P := Tryz.prog) (T := 25) Tryz.underlying25 bszU 64 (by rw [HL.out]; decide)
  have U1 := Lib.hid hu1; have U9 := Lib.hid hu9
  have SL := Lib.hid (fun (k : Nat) (hk : k < 7) => BV.out.cut (P := Tryz.prog) (T := 25) Tryz.underlying25 bszU (8 + 8 * k) (16 + 8 * k) (by omega) (by rw [HL.out]; omega))
  obtain ⟨z1, hz1⟩ : ∃ z, allZ (cut l 1 7) = z := ⟨_, rfl⟩
  obtain ⟨z2, hz2⟩ : ∃ z, allZ (l.drop 64) = z := ⟨_, rfl⟩
  have Z1 := Lib.hid hz1; have Z2 := Lib.hid hz2
  have F0 := Lib.hid (show sltFine l 0 = ((((decide (1 ≤ am) && decide (am ≤ 7)) && decide (nm ≤ 7)) && z1) && z2) by
    unfold sltFine hdrB; rw [hnf, ham, hnm, hz1, hz2, List.range_zero, List.all_nil, Bool.and_true])
  have FM := Lib.hid (sltFine_more l)
  obtain ⟨F, hF⟩ : ∃ F, sltFine l = F := ⟨_, rfl⟩
  have HDF := Lib.hid (show (if F 7 = true then (sltRd l, (0 : Int)) else (sltZ, 6)) = (y, e) by rw [← hF]; exact HD.out)
  rw [hF] at F0 FM AF
  clear hF HD
  have hmm : (l.length : Int) ≤ 5000 := by rw [HL.out]; decide
  rw [HL.out] at hr1 hr9 SL ⊢
  have R1 := Lib.hid (show ∀ w' : World, (Instr.slice 25 (.slice (some ⟨g, o, none⟩) 512 cv) (some (.int .i64 1)) (some (.int .i64 8)) none).run Tryz.prog w' = .ok s1 w' from hr1)
  have R9 := Lib.hid (show ∀ w' : World, (Instr.slice 25 (.slice (some ⟨g, o, none⟩) 512 cv) (some (.int .i64 64)) none none).run Tryz.prog w' = .ok s9 w' from hr9)
  have BV4 := Lib.hid (show BytesV w (.slice (some ⟨g, o, none⟩) 512 cv) l by have := BV.out; rwa [HL.out] at this)
  have hb9 : (b0 : Int) < 256 := by omega
  have hb00 : (0 : Int) ≤ (b0 : Int) := by omega
  have hrem : (b0 : Int).tmod 16 = (am : Int) := by rw [← ham]; rfl
  have hquo : (b0 : Int).tdiv 16 = (nm : Int) := by rw [← hnm]; rfl
  have hrem2 : (b0 : Int) % 16 = (am : Int) := by rw [← ham]; rfl
  have hquo2 : (b0 : Int) / 16 = (nm : Int) := by rw [← hnm]; rfl
  have am16 : (am : Int) < 16 := by omega
  have nm16 : (nm : Int) < 16 := by omega
  have hw0 : IntKind.i64.wrap (b0 : Int) = (b0 : Int) := by rw [IntKind.wrap_i64]; omega
  have hw1 : IntKind.i64.wrap (am : Int) = (am : Int) := by rw [IntKind.wrap_i64]; omega
  have hw2 : IntKind.i64.wrap (nm : Int) = (nm : Int) := by rw [IntKind.wrap_i64]; omega
  clear hy0 hnf hb0 ham hnm hu1 hu9 hr1 hr9 hz1 hz2 hb hmm
  go_enter Tryz.func9, Tryz.ntmps9
  go_upto_region 1 with (fail)
  rw [← HV.out]
  go_upto_region 4 with (first
    | (go_at_call 39; go_loud (refine (check23 _ l 512 512 0 _ rfl (BV4.out.below DV.out) (by unfold chkE; rw [HL.out]; rfl)).mono ?_; rintro r w1 ⟨rfl, rfl⟩)))
  go_cut [5] (fun v5 wx => ∃ Y, v5 = .pointer (some ⟨Y, 0, none⟩) ∧ V.heap.size ≤ Y ∧ wx.heap[Y]? = some (.cells (A 0) 24 (0, 0)) ∧ Below V.heap.size V wx)
  case first =>
    have q0 : ∀ y : KeepT nowhere V, y.val.cell? ⟨g, o, none⟩ = some (.int .u8 (b0 : Int)) := fun y => y.cell A0C.out id
    refine wp_region_planW nowhere [(true, 0), (true, 1), (true, 2), (true, 3), (true, 4), (true, 5), (true, 6), (true, 7), (true, 8), (true, 9), (true, 10), (false, 11), (false, 12)] (by kernel_rfl) (by kernel_rfl) (by intro c a d v w h; cases d <;> exact h) ?_
    intro W1 K1 C1
    repeat (refine wpS_firm rfl (fun K hK => ?_); simp only [Keep]; go_simp; refine hK _ ?_; clear hK K)
    refine wpS_chain rfl ?_
    go_wp2_with fail
    refine ⟨K1.out.alloc _, ?_⟩
    refine wpS_chain rfl ?_
    refine wpList_store_new rfl 24 (.tmp 5) (.tmp 26) rfl #[.int .i64 (am : Int), .int .i64 (nm : Int), .string ⟨#[]⟩, .string ⟨#[]⟩, .string ⟨#[]⟩, .string ⟨#[]⟩, .string ⟨#[]⟩, .string ⟨#[]⟩, .string ⟨#[]⟩] 24 _ rfl rfl (by kernel_rfl) rfl (by simp [Value.oneCell']) ?_
    intro w7 hr hw
    rw [← A0.out] at hr
    have C3 := Lib.hid (gr_tr C1.out hw); have K3 := Lib.hid (K1.out.below hw); have R3 := Lib.hid hr; clear hr hw
    go_wp2_with fail
    refine ⟨K3.out, ?_⟩
    unfold wpS
    go_wp2_with fail
    go_meet
    exact ⟨_, rfl, C1.out.size, R3.out, C3.out⟩
  case rest =>
    obtain ⟨Y, rfl, hY, hc, hw⟩ := hcut
    obtain ⟨w5, hw5⟩ : ∃ x, x = wc := ⟨_, rfl⟩
    subst hw5
    have YL := Lib.hid hY
    have Y5 := Lib.hid hc; have D5 := Lib.hid (gr_tr DV.out hw); have X5 := Lib.hid (blk_below XV.out hw)
    have B5 := Lib.hid (BV4.out.below (gr_tr DV.out hw))
    have r1 := R1.out; have r9 := R9.out
    have ya : w5.cell? ⟨Y, 0, none⟩ = some (.int .i64 (am : Int)) := (cell_of_row _ _ 0 _ _ _ Y5.out).trans (by rw [A0.out]; rfl)
    have yn : w5.cell? ⟨Y, 1, none⟩ = some (.int .i64 (nm : Int)) := (cell_of_row _ _ 1 _ _ _ Y5.out).trans (by rw [A0.out]; rfl)
    clear hY hc hw hrem hquo hrem2 hquo2
    go_upto_region 5 with (fail)
    go_cut [6] (fun v wx => v = .bool (F 0) ∧ w5 = wx)
    case first =>
      by_cases q1 : 1 ≤ am
      · have e1 : decide ((1 : Int) ≤ (am : Int)) = true := decide_eq_true (by omega)
        have e1b : decide (1 ≤ am) = true := decide_eq_true q1
        have E1 := Lib.hid e1b
        by_cases q2 : am ≤ 7
        · have e2 : decide ((am : Int) ≤ 7) = true := decide_eq_true (by omega)
          have e2b : decide (am ≤ 7) = true := decide_eq_true q2
          have E2 := Lib.hid e2b
          by_cases q3 : nm ≤ 7
          · have e3 : decide ((nm : Int) ≤ 7) = true := decide_eq_true (by omega)
            have e3b : decide (nm ≤ 7) = true := decide_eq_true q3
            have E3 := Lib.hid e3b
            clear q1 q2 q3
            cases z1
            · go_wp2_with (go_at_call 40; go_loud ((with_reducible refine (rZeros_at s1 (cut l 1 7) false _ (U1.out.below D5.out) Z1.out).mono ?_); rintro r wz ⟨rfl, rfl⟩))
              go_meet
              exact ⟨by rw [F0.out, E1.out, E2.out, E3.out]; rfl, rfl⟩
            · go_wp2_with (first
                | (go_at_call 40; go_loud ((with_reducible refine (rZeros_at s1 (cut l 1 7) true _ (U1.out.below D5.out) Z1.out).mono ?_); rintro r wz ⟨rfl, rfl⟩))
                | (go_at_call 40; go_loud ((with_reducible refine (rZeros_at s9 (l.drop 64) z2 _ (U9.out.below D5.out) Z2.out).mono ?_); rintro r wz ⟨rfl, rfl⟩)))
              go_meet
              exact ⟨by rw [F0.out, E1.out, E2.out, E3.out]; rfl, rfl⟩
          · have e3 : decide ((nm : Int) ≤ 7) = false := decide_eq_false (by omega)
            have e3b : decide (nm ≤ 7) = false := decide_eq_false q3
            have E3 := Lib.hid e3b
            clear q1 q2 q3
            go_wp2
            go_meet
            exact ⟨by rw [F0.out, E1.out, E2.out, E3.out]; rfl, rfl⟩
        · have e2 : decide ((am : Int) ≤ 7) = false := decide_eq_false (by omega)
          have e2b : decide (am ≤ 7) = false := decide_eq_false q2
          have E2 := Lib.hid e2b
          clear q1 q2
          go_wp2
          go_meet
          exact ⟨by rw [F0.out, E1.out, E2.out]; rfl, rfl⟩
      · have e1 : decide ((1 : Int) ≤ (am : Int)) = false := decide_eq_false (by omega)
        have e1b : decide (1 ≤ am) = false := decide_eq_false q1
        have E1 := Lib.hid e1b
        clear q1
        go_wp2
        go_meet
        exact ⟨by rw [F0.out, E1.out]; rfl, rfl⟩
    case rest =>
      obtain ⟨rfl, rfl⟩ := hcut
      clear r1 r9 ya yn
      go_upto_region 7 with (fail)
      go_loopw [6, 7] (fun f i wr => ∃ k : Nat, k ≤ 7 ∧ i = .int .i64 k ∧ f = .bool (F k) ∧ wr.heap[w.heap.size]? = some (.cells #[.int .i64 0, .int .i64 0, .string ⟨#[]⟩, .string ⟨#[]⟩, .string ⟨#[]⟩, .string ⟨#[]⟩, .string ⟨#[]⟩, .string ⟨#[]⟩, .string ⟨#[]⟩] 24 (0, 0)) ∧ wr.heap[Y]? = some (.cells (A k) 24 (0, 0)) ∧ Below w.heap.size w wr) (fun _ i _ => 7 - (intOf i).toNat)
      case atStart => exact ⟨0, by omega, rfl, rfl, X5.out, Y5.out, D5.out⟩
      case round =>
        obtain ⟨k, hk, rfl, rfl, hx, hy, hb⟩ := hrel
        have Xa := Lib.hid hx; have Ya := Lib.hid hy; have Da := Lib.hid hb; clear hx hy hb
        by_cases hlt : k < 7
        · obtain ⟨uk, huk, hrk, -⟩ := SL.out k hlt
          rw [List.drop_take, show (l.drop (8 + 8 * k)).take (16 + 8 * k - (8 + 8 * k)) = chk l k by unfold chk cut; congr 1; omega] at huk
          rw [show ((8 + 8 * k : Nat) : Int) = 8 + 8 * (k : Int) by omega, show ((16 + 8 * k : Nat) : Int) = 16 + 8 * (k : Int) by omega] at hrk
          obtain ⟨t, ht⟩ : ∃ t, chk l k = t := ⟨_, rfl⟩
          have TL := Lib.hid (show t.length = 8 by rw [← ht]; exact chk_len l HL.out k hlt)
          have RVK := Lib.hid (show rvR (chk l k) = (if allZ t then [] else Wire.rstrip t) by rw [ht]; rfl)
          have CKK := Lib.hid (show F (k + 1) = (F k && (allZ t || (!(Wire.rstrip t).isEmpty && revOk (Wire.rstrip t)))) by rw [FM.out, ht]; rfl)
          rw [ht] at huk
          have UK := Lib.hid huk
          obtain ⟨zk, hzk⟩ : ∃ z, allZ t = z := ⟨_, rfl⟩
          have ZK := Lib.hid hzk
          have hk0 : (0 : Int) ≤ (k : Int) := by omega
          have hk1 : (k : Int) < 7 := by omega
          have HLT := Lib.hid hlt
          clear ht hzk huk
          cases zk
          · rw [ZK.out] at RVK CKK
            have ASK := Lib.hid (AS.out k (Wire.rstrip t) HLT.out (RVK.out.trans (if_neg (by decide))))
            have ATK := Lib.hid (show (A (k + 1))[2 + k]? = some (.string (strOf (Wire.rstrip t))) by rw [AT.out k HLT.out, RVK.out]; rfl)
            obtain ⟨gk, ok, ck, hsh⟩ := UK.out.shapeAt (by rw [TL.out]; decide)
            rw [TL.out] at hsh
            subst hsh
            go_upto_region 12 with (go_at_call 40; go_loud ((with_reducible refine (rZeros_at _ t false _ (UK.out.below Da.out) ZK.out).mono ?_); rintro r wz ⟨rfl, rfl⟩))
            have UA := Lib.hid (UK.out.below Da.out)
            go_loopw [9] (fun i wx => ∃ n : Nat, n ≤ 8 ∧ i = .int .i64 n ∧ (∀ j, n ≤ j → j < t.length → t[j]? = some 32#8) ∧ wx.heap[w.heap.size]? = some (.cells #[.int .i64 0, .int .i64 0, .string ⟨#[]⟩, .string ⟨#[]⟩, .string ⟨#[]⟩, .string ⟨#[]⟩, .string ⟨#[]⟩, .string ⟨#[]⟩, .string ⟨#[]⟩] 24 (0, 0)) ∧ wx.heap[Y]? = some (.cells (A k) 24 (0, 0)) ∧ Below w.heap.size w wx) (fun i _ => (intOf i).toNat)
            case atStart => exact ⟨8, by omega, rfl, fun j h1 h2 => by have := TL.out; omega, Xa.out, Ya.out, Da.out⟩
            case round =>
              obtain ⟨n, hn, rfl, hsp, hx, hy, hb⟩ := hrel
              have Xb := Lib.hid hx; have Yb := Lib.hid hy; have Db := Lib.hid hb; have SP := Lib.hid hsp; clear hx hy hb hsp
              have UB := Lib.hid (UK.out.below Db.out)
              by_cases hn0 : 0 < n
              · obtain ⟨m, rfl⟩ : ∃ m, n = m + 1 := ⟨n - 1, by omega⟩
                obtain ⟨z, hz⟩ : ∃ z, t[m]? = some z := ⟨_, List.getElem?_eq_getElem (by rw [TL.out]; omega)⟩
                have HZ := Lib.hid hz
                have cz := UB.out.cellAt hz
                have hm8 : (m : Int) < 8 := by omega
                have hm0 : (0 : Int) ≤ (m : Int) := by omega
                clear hz
                by_cases hz32 : z = 32#8
                · subst hz32
                  have e32 : (uv (32#8) == 32) = true := rfl
                  go_wp2
                  go_roundw
                  case rel => exact ⟨m, by omega, by go_num, fun j h1 h2 => by
                    rcases Nat.lt_or_ge m j with h3 | h3
                    · exact SP.out j h3 h2
                    · have : j = m := by omega
                      rw [this]; exact HZ.out, Xb.out, Yb.out, Db.out⟩
                  case measure => simp [intOf]
                · have e32 : (uv z == 32) = false := beq_eq_false_iff_ne.2 (fun h => hz32 (BitVec.eq_of_toNat_eq (by have : uv z = (z.toNat : Int) := rfl; rw [this] at h; show z.toNat = 32; omega)))
                  have HT := Lib.hid (rstrip_take t (m + 1) (by rw [TL.out]; omega) SP.out (.inr (by rw [Nat.add_sub_cancel, HZ.out]; intro h; injection h with h; exact hz32 h)))
                  have hnpos : decide ((0 : Int) < ((m + 1 : Nat) : Int)) = true := decide_eq_true (by omega)
                  have hnposb : decide ((0 : Int) < (m : Int) + 1) = true := decide_eq_true (by omega)
                  have EMP := Lib.hid (show (Wire.rstrip t).isEmpty = false by rw [HT.out]; cases h : t.take (m + 1) with
                    | nil => exact absurd (congrArg List.length h) (by rw [List.length_take, TL.out, Nat.min_eq_left (by omega)]; simp)
                    | cons a b => rfl)
                  clear hz32 hn0
                  obtain ⟨uc, huc, -, hrc⟩ := UB.out.cut (P := Tryz.prog) (T := 25) Tryz.underlying25 bszU 0 (m + 1) (by omega) (by rw [TL.out]; omega)
                  replace hrc : ∀ w2 : World, (Instr.slice 25 (.slice (some ⟨gk, ok, none⟩) 8 ck) none (some (.int .i64 ((m : Int) + 1))) none).run Tryz.prog w2 = .ok uc w2 := hrc rfl
                  rw [List.drop_zero, ← HT.out] at huc
                  have hcv := run_string huc
                  have HRC := Lib.hid hrc
                  have RL := Lib.hid (show (Wire.rstrip t).length ≤ 1000000 by have h1 := rstrip_len t; have h2 := TL.out; omega)
                  have yb : wr.cell? ⟨Y, 2 + k, none⟩ = some (.string (strOf [])) := (cell_of_row _ _ _ _ _ _ Yb.out).trans (AG.out k HLT.out)
                  have fb := frozen_of_row _ _ (2 + k) _ _ Yb.out
                  clear huc
                  go_upto_region 15 with (fail)
                  obtain ⟨wc, hwc⟩ : ∃ wc, wc = wr.setCell ⟨Y, 2 + k, none⟩ (.string (strOf (Wire.rstrip t))) := ⟨_, rfl⟩
                  have cc : Chg (fun b => b = Y) wr wc := by rw [hwc]; exact Chg.setCell (B := fun b => b = Y) (p := ⟨Y, 2 + k, none⟩) _ rfl _
                  have Yc := Lib.hid (show wc.heap[Y]? = some (.cells (A (k + 1)) 24 (0, 0)) by rw [hwc, ← ASK.out]; exact heap_setCell_same _ _ _ _ _ _ Yb.out)
                  have Xc := Lib.hid (cc.blk Xb.out (by have h1 := YL.out; have h2 := VS.out; omega))
                  have Dc := Lib.hid (Db.out.trans (cc.below (fun q hq => by subst hq; have h1 := YL.out; have h2 := VS.out; omega) Db.out.size))
                  have yc : wc.cell? ⟨Y, 2 + k, none⟩ = some (.string (strOf (Wire.rstrip t))) := (cell_of_row _ _ _ _ _ _ Yc.out).trans ATK.out
                  rw [← hwc]
                  clear hwc cc yb fb hrc hcv
                  obtain ⟨fk, hfk⟩ : ∃ f, F k = f := ⟨_, rfl⟩
                  obtain ⟨rk, hrk2⟩ : ∃ r, revOk (Wire.rstrip t) = r := ⟨_, rfl⟩
                  have RK := Lib.hid hrk2
                  have FK := Lib.hid (show F (k + 1) = (fk && (true && rk)) by rw [CKK.out, hfk, EMP.out, hrk2]; rfl)
                  rw [hfk]
                  clear hfk hrk2
                  cases fk
                  · go_wp2
                    go_roundw
                    case rel => exact ⟨k + 1, by omega, by go_num, by rw [FK.out]; rfl, Xc.out, Yc.out, Dc.out⟩
                    case measure => simp [intOf]; omega
                  · go_wp2_with (go_at_call 32; go_loud (refine (rrev_at (Wire.rstrip t) rk wc RK.out RL.out).mono ?_; rintro r w8 ⟨rfl, hw⟩; have X8 := Lib.hid (blk_below Xc.out hw); have Y8 := Lib.hid (blk_below Yc.out hw); have D8 := Lib.hid (gr_tr Dc.out hw); clear hw))
                    go_roundw
                    case rel => exact ⟨k + 1, by omega, by go_num, by rw [FK.out]; rfl, X8.out, Y8.out, D8.out⟩
                    case measure => simp [intOf]; omega
              · obtain rfl : n = 0 := by omega
                have HT := Lib.hid (rstrip_take t 0 (by omega) SP.out (.inl rfl))
                have EMP := Lib.hid (show (Wire.rstrip t).isEmpty = true by rw [HT.out, List.take_zero]; rfl)
                clear hn0
                obtain ⟨uc, huc, -, hrc⟩ := UB.out.cut (P := Tryz.prog) (T := 25) Tryz.underlying25 bszU 0 0 (by omega) (by rw [TL.out]; omega)
                replace hrc : ∀ w2 : World, (Instr.slice 25 (.slice (some ⟨gk, ok, none⟩) 8 ck) none (some (.int .i64 0)) none).run Tryz.prog w2 = .ok uc w2 := hrc rfl
                rw [List.drop_zero, ← HT.out] at huc
                have hcv := run_string huc
                have HRC := Lib.hid hrc
                have RL := Lib.hid (show (Wire.rstrip t).length ≤ 1000000 by have h1 := rstrip_len t; have h2 := TL.out; omega)
                have yb : wr.cell? ⟨Y, 2 + k, none⟩ = some (.string (strOf [])) := (cell_of_row _ _ _ _ _ _ Yb.out).trans (AG.out k HLT.out)
                have fb := frozen_of_row _ _ (2 + k) _ _ Yb.out
                clear huc
                go_upto_region 15 with (fail)
                obtain ⟨wc, hwc⟩ : ∃ wc, wc = wr.setCell ⟨Y, 2 + k, none⟩ (.string (strOf (Wire.rstrip t))) := ⟨_, rfl⟩
                have cc : Chg (fun b => b = Y) wr wc := by rw [hwc]; exact Chg.setCell (B := fun b => b = Y) (p := ⟨Y, 2 + k, none⟩) _ rfl _
                have Yc := Lib.hid (show wc.heap[Y]? = some (.cells (A (k + 1)) 24 (0, 0)) by rw [hwc, ← ASK.out]; exact heap_setCell_same _ _ _ _ _ _ Yb.out)
                have Xc := Lib.hid (cc.blk Xb.out (by have h1 := YL.out; have h2 := VS.out; omega))
                have Dc := Lib.hid (Db.out.trans (cc.below (fun q hq => by subst hq; have h1 := YL.out; have h2 := VS.out; omega) Db.out.size))
                have yc : wc.cell? ⟨Y, 2 + k, none⟩ = some (.string (strOf (Wire.rstrip t))) := (cell_of_row _ _ _ _ _ _ Yc.out).trans ATK.out
                rw [← hwc]
                clear hwc cc yb fb hrc hcv
                obtain ⟨fk, hfk⟩ : ∃ f, F k = f := ⟨_, rfl⟩
                obtain ⟨rk, hrk2⟩ : ∃ r, revOk (Wire.rstrip t) = r := ⟨_, rfl⟩
                have RK := Lib.hid hrk2
                have FK := Lib.hid (show F (k + 1) = (fk && (false && rk)) by rw [CKK.out, hfk, EMP.out, hrk2]; rfl)
                rw [hfk]
                clear hfk hrk2
                cases fk
                · go_wp2
                  go_roundw
                  case rel => exact ⟨k + 1, by omega, by go_num, by rw [FK.out]; rfl, Xc.out, Yc.out, Dc.out⟩
                  case measure => simp [intOf]; omega
                · go_wp2
                  go_roundw
                  case rel => exact ⟨k + 1, by omega, by go_num, by rw [FK.out]; rfl, Xc.out, Yc.out, Dc.out⟩
                  case measure => simp [intOf]; omega
          · rw [ZK.out] at RVK CKK
            have AN2 := Lib.hid (AN.out k HLT.out (RVK.out.trans (if_pos rfl)))
            have FK2 := Lib.hid (show F (k + 1) = F k by rw [CKK.out, Bool.true_or, Bool.and_true])
            go_wp2_with (go_at_call 40; go_loud ((with_reducible refine (rZeros_at _ t true _ (UK.out.below Da.out) ZK.out).mono ?_); rintro r wz ⟨rfl, rfl⟩))
            go_roundw
            case rel => exact ⟨k + 1, by omega, by go_num, by rw [FK2.out], Xa.out, by rw [← AN2.out]; exact Ya.out, Da.out⟩
            case measure => simp [intOf]; omega
        · obtain rfl : k = 7 := by omega
          obtain ⟨fk, hfk⟩ : ∃ f, F 7 = f := ⟨_, rfl⟩
          have hd2 := HDF.out
          have HFK := Lib.hid hfk
          rw [hfk] at hd2 ⊢
          clear hfk
          cases fk
          · simp only [Bool.false_eq_true, if_false] at hd2
            cases hd2
            go_wp2_with (refine wpList_store_row rfl 24 (.tmp 2) (.tmp 97) rfl w.heap.size #[.int .i64 0, .int .i64 0, .string ⟨#[]⟩, .string ⟨#[]⟩, .string ⟨#[]⟩, .string ⟨#[]⟩, .string ⟨#[]⟩, .string ⟨#[]⟩, .string ⟨#[]⟩] rfl rfl 24 _ Xa.out (by kernel_rfl) rfl (by simp [Value.oneCell']) ?_)
            exact bodyPost_ret (results_row_tmp rfl _ _ w.heap.size 24 #[.int .i64 0, .int .i64 0, .string ⟨#[]⟩, .string ⟨#[]⟩, .string ⟨#[]⟩, .string ⟨#[]⟩, .string ⟨#[]⟩, .string ⟨#[]⟩, .string ⟨#[]⟩] (0, 0) _ rfl (setRow_heap _ _ _ _ _ _ Xa.out) Tryz.underlying24 rfl (by kernel_rfl)) rfl ⟨by rw [ZS.out]; rfl, below_setRow Da.out (Nat.le_refl _) _⟩
          · simp only [if_true] at hd2
            cases hd2
            go_wp2_with (first
              | (refine wpList_load_row rfl 24 (.tmp 5) rfl Y rfl 24 (A 7) (0, 0) _ Ya.out Tryz.underlying24 rfl (by rw [AZ.out]; kernel_rfl) ?_)
              | (refine wpList_store_row rfl 24 (.tmp 2) (.tmp 98) rfl w.heap.size (A 7) rfl rfl 24 _ Xa.out (by rw [AZ.out]; kernel_rfl) (by rw [AZ.out]; rfl) AO.out ?_))
            exact bodyPost_ret (results_row_tmp rfl _ _ w.heap.size 24 (A 7) (0, 0) _ rfl (setRow_heap _ _ _ _ _ _ Xa.out) Tryz.underlying24 rfl (by rw [AZ.out]; kernel_rfl)) rfl ⟨by rw [← AF.out HFK.out]; rfl, below_setRow Da.out (Nat.le_refl _) _⟩
end Go.Proofs.YthnnopjakpjoeaaGreatDoor
