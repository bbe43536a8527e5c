/- Merged: LogU, LogK, LogSl, LogH, LogI, LogX, LogV, LogQ, LogBk. -/
import Derived.Test.YthnnopjakpjoeaaGreatDoorLogB
import Derived.Test.YthnnopjakpjoeaaGreatDoorLogR
import Derived.Test.YthnnopjakpjoeaaGreatDoorLogE
import Derived.Test.YthnnopjakpjoeaaGreatDoorLogN
import Derived.Test.YthnnopjakpjoeaaGreatDoorRows2
import Derived.Test.YthnnopjakpjoeaaGreatDoorLogD
import Derived.Deep.MidRow
import Derived.Deep.QuietTactic
namespace Go.Proofs.YthnnopjakpjoeaaGreatDoor
open Go.RowKit Lg
set_option linter.unusedVariables false
set_option linter.unusedSimpArgs false
theorem below_getU {w w' : World} {b o : Nat} {v : Value} (h : Below w.heap.size w w') (hc : w.cell? ⟨b, o, none⟩ = some v) : w'.cell? ⟨b, o, none⟩ = some v := (Chg.of_below (B := fun _ => False) h).cell hc id
theorem SliceV.nil0 {α : Type} {f : α → List Value} (w : World) : SliceV w f (.slice none 0 0) [] := ⟨none, 0, rfl, fun _ => rfl, by simp, by simp, .inl rfl⟩
theorem SliceV.of_wd {w : World} {base : Nat} {e : TypeId} {v : Value} {l : List (BitVec 64)} (h : w.ownsRow base e 1 v l.length (wd l)) : SliceV w (fun y : BitVec 64 => [Value.int .u64 (uv y)]) v l := by
  obtain ⟨h1, h2⟩ := h
  rcases h2 with ⟨e1, e2⟩ | ⟨g, cap, cur, hv, hg, hh, r1, r2, r3, r4⟩
  · have : l = [] := List.length_eq_zero_iff.1 e2
    subst this; subst e1; exact SliceV.nil0 w
  · subst hv
    exact ⟨_, cap, rfl, (by simp), r1, r2, by rw [flat1]; exact Row.of_own ⟨h1, .inr ⟨g, cap, cur, rfl, hg, hh, r1, r2, r3, r4⟩⟩⟩
theorem SliceV.of_w32 {w : World} {base : Nat} {e : TypeId} {v : Value} {l : List (BitVec 32)} (h : w.ownsRow base e 1 v l.length (l.map fun y => Value.int .u32 (uv y))) : SliceV w (fun y : BitVec 32 => [Value.int .u32 (uv y)]) v l := by
  obtain ⟨h1, h2⟩ := h
  rcases h2 with ⟨e1, e2⟩ | ⟨g, cap, cur, hv, hg, hh, r1, r2, r3, r4⟩
  · have : l = [] := List.length_eq_zero_iff.1 e2
    subst this; subst e1; exact SliceV.nil0 w
  · subst hv
    exact ⟨_, cap, rfl, (by simp), r1, r2, by rw [flat1]; exact Row.of_own ⟨h1, .inr ⟨g, cap, cur, rfl, hg, hh, r1, r2, r3, r4⟩⟩⟩
namespace Lg
theorem risB_snoc {n : Nat} (a : BitVec n) (l : List (BitVec n)) (x : BitVec n) : risB a (l ++ [x]) = (risB a l && decide (uv (l.getLastD a) < uv x)) := by
  induction l generalizing a with
  | nil => rw [List.nil_append]; unfold risB risB; rw [Bool.and_true, Bool.true_and]; rfl
  | cons y l ih =>
    have e : ∀ m : List (BitVec n), risB a (y :: m) = (decide (uv a < uv y) && risB y m) := fun m => rfl
    rw [List.cons_append, e, e, ih, Bool.and_assoc, List.getLastD_cons]
theorem risB_take {n : Nat} (a : BitVec n) (l : List (BitVec n)) (k : Nat) (x p : BitVec n) (hx : l[k]? = some x) (hp : (if k = 0 then some a else l[k - 1]?) = some p) : risB a (l.take (k + 1)) = (risB a (l.take k) && decide (uv p < uv x)) := by
  obtain ⟨hk, rfl⟩ := List.getElem?_eq_some_iff.1 hx
  rw [List.take_succ_eq_append_getElem hk, risB_snoc]
  have e : (l.take k).getLastD a = p := by
    cases k with
    | zero => rw [if_pos rfl] at hp; injection hp
    | succ k =>
      rw [if_neg (by omega), Nat.add_sub_cancel] at hp
      rw [List.getLastD_eq_getLast?, List.getLast?_eq_getElem?, List.length_take, Nat.min_eq_left (by omega), Nat.add_sub_cancel, List.getElem?_take_of_lt (by omega), hp]
      rfl
  rw [e]
theorem risB_false {n : Nat} (a : BitVec n) (l : List (BitVec n)) (k : Nat) (h : risB a (l.take k) = false) : risB a l = false := by
  induction l generalizing a k with
  | nil => rw [List.take_nil] at h; exact h
  | cons y l ih =>
    cases k with
    | zero => exact absurd h (by unfold risB; simp)
    | succ k =>
      rw [List.take_succ_cons] at h
      unfold risB at h ⊢
      cases hd : decide (uv a < uv y)
      · rfl
      · rw [hd, Bool.true_and] at h
        rw [Bool.true_and]; exact ih y k h
theorem zoRis_one (l : List (BitVec 64)) : zoRis (l.take 0) = true ∧ zoRis (l.take 1) = true := by
  cases l <;> exact ⟨rfl, rfl⟩
theorem zoRis_take (l : List (BitVec 64)) (k : Nat) (x p : BitVec 64) (hx : l[k + 1]? = some x) (hp : l[k]? = some p) : zoRis (l.take (k + 2)) = (zoRis (l.take (k + 1)) && decide (uv p < uv x)) := by
  cases l with
  | nil => exact absurd hx (by simp)
  | cons y l =>
    rw [List.getElem?_cons_succ] at hx
    show risB y (l.take (k + 1)) = (risB y (l.take k) && _)
    refine risB_take y l k x p hx ?_
    cases k with
    | zero => rw [if_pos rfl]; exact hp
    | succ k => rw [if_neg (by omega)]; exact hp
theorem zoRis_false (l : List (BitVec 64)) (k : Nat) (h : zoRis (l.take k) = false) : zoRis l = false := by
  cases l with
  | nil => rw [List.take_nil] at h; exact h
  | cons y l =>
    cases k with
    | zero => exact absurd h (by rw [List.take_zero]; unfold zoRis; simp)
    | succ k => exact risB_false y l k h
theorem get_consN (x : BitVec 8) (r : List (BitVec 8)) (h : r.length ≤ 7) : (Wire.get (x :: r)).toNat = x.toNat + 256 * (Wire.get r).toNat := by
  have hr : (Wire.get r).toNat < 2 ^ 56 := by
    have h1 := congrArg BitVec.toNat (Wire.get_high r (by omega))
    rw [BitVec.toNat_ushiftRight, Nat.shiftRight_eq_div_pow] at h1
    have h2 : (Wire.get r).toNat < 2 ^ (8 * r.length) := by
      rcases Nat.lt_or_ge (Wire.get r).toNat (2 ^ (8 * r.length)) with h3 | h3
      · exact h3
      · have := Nat.div_pos h3 (Nat.two_pow_pos _)
        simp at h1; omega
    exact Nat.lt_of_lt_of_le h2 (Nat.pow_le_pow_right (by decide) (by omega))
  rw [Wire.get_cons, BitVec.toNat_or, BitVec.toNat_shiftLeft, BitVec.toNat_setWidth, Nat.shiftLeft_eq, Nat.mod_eq_of_lt (by omega : (Wire.get r).toNat * 2 ^ 8 < 2 ^ 64), Nat.mod_eq_of_lt (by have := x.isLt; omega : x.toNat < 2 ^ 64), Nat.mul_comm, ← Nat.two_pow_add_eq_or_of_lt x.isLt]
  omega
theorem num_zero (l : List (BitVec 8)) (a n : Nat) (h : a + n ≤ l.length) (h8 : n ≤ 8) : (num l a n).toNat = 0 ↔ allZ (cut l a n) = true := by
  have hl := num_le l a n h h8
  have z : Wire.le 0#64 n = List.replicate n 0#8 := by
    apply List.ext_getElem?
    intro i
    by_cases hi : i < n
    · rw [Wire.le_get _ _ _ hi, List.getElem?_replicate, if_pos hi]; congr 1; simp
    · rw [List.getElem?_eq_none (by rw [Wire.le_len]; omega), List.getElem?_eq_none (by simp; omega)]
  rw [allZ_iff, cut_len h]
  constructor
  · intro h0
    have : num l a n = 0#64 := BitVec.eq_of_toNat_eq h0
    rw [← hl, this, z]
  · intro h0
    unfold num
    rw [h0, ← z, Wire.get_le 0#64 n h8 (fun _ => by simp)]; rfl
theorem num_two (l : List (BitVec 8)) (h : 8 ≤ l.length) : (num l 0 8).toNat = (num l 0 2).toNat + 65536 * (num l 2 6).toNat := by
  match l, h with
  | x0 :: x1 :: r, h =>
    have e1 : num (x0 :: x1 :: r) 0 8 = Wire.get (x0 :: x1 :: cut (x0 :: x1 :: r) 2 6) := rfl
    have e2 : num (x0 :: x1 :: r) 0 2 = Wire.get [x0, x1] := rfl
    have hc : (cut (x0 :: x1 :: r) 2 6).length ≤ 6 := by unfold cut; rw [List.length_take]; omega
    rw [e1, e2, get_consN _ _ (by rw [List.length_cons]; omega), get_consN _ _ (by omega), get_consN _ _ (by simp), get_consN _ _ (by simp)]
    show _ + 256 * (_ + 256 * (num _ 2 6).toNat) = _ + 256 * (_ + 256 * 0) + _
    omega
theorem cons_eq2 {α : Type} {a b : α} {l m : List α} (h : a = b) (h2 : l = m) : a :: l = b :: m := by rw [h, h2]
theorem tw_all {α : Type} (p : α → Bool) (l : List α) : ∀ x ∈ l.takeWhile p, p x = true := by
  induction l with
  | nil => intro x hx; exact absurd hx (by simp)
  | cons y l ih =>
    intro x hx
    rw [List.takeWhile_cons] at hx
    cases hy : p y
    · rw [hy] at hx; exact absurd hx (by simp)
    · rw [hy, if_pos rfl] at hx
      rcases List.mem_cons.1 hx with rfl | h
      · exact hy
      · exact ih x h
theorem resOk_true (sz : Nat) (k m : Nat) (l : List (BitVec 8)) : resOk (List.replicate k (sz, true) ++ [(m, false)]) l = allZ ((l.drop (sz * k)).take m) := by
  induction k generalizing l with
  | zero => rw [List.replicate_zero, List.nil_append]; unfold resOk resOk; rw [Bool.and_true, Bool.false_or, Nat.mul_zero, List.drop_zero]
  | succ k ih => rw [List.replicate_succ, List.cons_append]; unfold resOk; rw [Bool.true_or, Bool.true_and, ih, List.drop_drop, Nat.mul_succ, Nat.add_comm]
theorem fieldsOf_true (s : Nat) (k : Nat) (l : List (BitVec 8)) (a : Nat) : fieldsOf l a (List.replicate k (s, true)) = (List.range k).map fun i => (num l (a + s * i) s, (s : Int)) := by
  induction k generalizing a with
  | zero => rfl
  | succ k ih =>
    rw [List.replicate_succ, List.range_succ_eq_map, List.map_cons, List.map_map]
    unfold fieldsOf
    rw [if_pos rfl, ih]
    refine cons_eq2 rfl (List.map_congr_left fun i _ => ?_)
    show _ = (num l (a + s * (i + 1)) s, _)
    rw [show a + s + s * i = a + s * (i + 1) by rw [Nat.mul_succ]; omega]
theorem spSz_true (s k : Nat) : spSz (List.replicate k (s, true)) = s * k := by
  unfold spSz
  induction k with
  | zero => rfl
  | succ k ih => rw [List.replicate_succ, List.map_cons, List.sum_cons, ih, Nat.mul_succ, Nat.add_comm]
/-- The zones of bytes. -/
def zoN (l : List (BitVec 8)) : Nat := min (num l 0 8).toNat 511
def zoL (l : List (BitVec 8)) (n : Nat) : List (BitVec 64) := (List.range n).map fun i => num l (8 + 8 * i) 8
def zoRd (l : List (BitVec 8)) : List (BitVec 64) := zoL l (zoN l)
def zoOkB (l : List (BitVec 8)) : Bool := zoOkL (zoRd l) && (zoBL (zoRd l) == l)
def zoM (l : List (BitVec 8)) : Nat := (num l 0 2).toNat
def zoFine (l : List (BitVec 8)) : Bool := decide (zoM l ≤ 511) && (allZ (cut l 2 6) && (zoRis (zoL l (zoM l)) && allZ (l.drop (8 + 8 * zoM l))))
theorem zoL_len (l : List (BitVec 8)) (n : Nat) : (zoL l n).length = n := by unfold zoL; rw [List.length_map, List.length_range]
theorem zoL_get (l : List (BitVec 8)) (n i : Nat) (h : i < n) : (zoL l n)[i]? = some (num l (8 + 8 * i) 8) := by unfold zoL; rw [List.getElem?_map, List.getElem?_range h]; rfl
theorem zoL_take (l : List (BitVec 8)) (n k : Nat) (h : k ≤ n) : (zoL l n).take k = zoL l k := by
  unfold zoL; rw [← List.map_take, List.take_range, Nat.min_eq_left h]
theorem zoL_more (l : List (BitVec 8)) (n : Nat) : zoL l (n + 1) = zoL l n ++ [num l (8 + 8 * n) 8] := by unfold zoL; rw [List.range_succ, List.map_append]; rfl
theorem zo_back (l : List (BitVec 8)) (h : l.length = 4096) (n : Nat) (hn : n ≤ 511) (he : (num l 0 8).toNat = n) : (zoBL (zoL l n) == l) = allZ (l.drop (8 + 8 * n)) := by
  have hf : zoFl (zoL l n) = fieldsOf l 0 (List.replicate (1 + n) (8, true)) := by
    rw [fieldsOf_true, Nat.add_comm 1 n, List.range_succ_eq_map, List.map_cons, List.map_map]
    unfold zoFl
    refine cons_eq2 ?_ ?_
    · rw [zoL_len, Nat.zero_add, Nat.mul_zero, ← he, BitVec.ofNat_toNat, BitVec.setWidth_eq]; rfl
    · unfold fl64 zoL
      rw [List.map_map]
      refine List.map_congr_left fun i _ => ?_
      show (num l (8 + 8 * i) 8, (8 : Int)) = (num l (0 + 8 * (i + 1)) 8, _)
      rw [show 0 + 8 * (i + 1) = 8 + 8 * i by omega]; rfl
  unfold zoBL
  rw [hf, page_back l _ (4096 - (8 + 8 * n)) 4096 (fun s hs => by rw [List.eq_of_mem_replicate hs]; decide) (by rw [spSz_true]; omega) h, resOk_true, show 8 * (1 + n) = 8 + 8 * n by omega, List.take_of_length_le (by rw [List.length_drop]; omega)]
theorem zo_okB (l : List (BitVec 8)) (h : l.length = 4096) : zoOkB l = zoFine l ∧ (zoFine l = true → zoRd l = zoL l (zoM l)) := by
  have h2 := num_two l (by omega)
  have h6 := num_zero l 2 6 (by omega) (by decide)
  have hlt : (num l 0 2).toNat < 65536 := num_lt l 0 2 (by omega) (by decide)
  by_cases hc : (num l 0 8).toNat ≤ 511
  · have z6 : (num l 2 6).toNat = 0 := by omega
    have em : zoM l = (num l 0 8).toNat := by unfold zoM; omega
    have en : zoN l = zoM l := by unfold zoN; rw [em]; omega
    refine ⟨?_, fun _ => by unfold zoRd; rw [en]⟩
    unfold zoOkB zoFine zoRd zoOkL
    rw [en, zo_back l h (zoM l) (by omega) em.symm, h6.1 z6, zoL_len, Bool.true_and, Bool.and_assoc]
  · have hf : zoFine l = false := by
      unfold zoFine
      by_cases q : zoM l ≤ 511
      · have : allZ (cut l 2 6) = false := by
          cases hz : allZ (cut l 2 6)
          · rfl
          · have := h6.2 hz; unfold zoM at q; omega
        rw [this, Bool.false_and, Bool.and_false]
      · rw [decide_eq_false q, Bool.false_and]
    rw [hf]
    refine ⟨?_, fun h => by cases h⟩
    unfold zoOkB
    have : (zoBL (zoRd l) == l) = false := by
      refine beq_eq_false_iff_ne.2 fun hh => ?_
      have hn : zoN l = 511 := by unfold zoN; omega
      have h8 := num_field (zoFl (zoRd l)) (zo_e _) (List.replicate (4096 - (Wire.cat (zoFl (zoRd l))).length) 0#8) 0 (BitVec.ofNat 64 (zoRd l).length, 8) rfl
      have h9 : num (zoBL (zoRd l)) 0 8 = BitVec.ofNat 64 511 := by
        have : (zoRd l).length = 511 := by unfold zoRd; rw [zoL_len, hn]
        rw [this] at h8; exact h8
      rw [hh] at h9
      rw [h9] at hc
      exact hc (by decide)
    rw [this, Bool.and_false]
theorem zo_dec (l : List (BitVec 8)) : decP 4096 zoRd zoOkB [] l = decP 4096 (fun l => zoL l (zoM l)) zoFine [] l := by
  unfold decP
  by_cases h1 : l.length < 4096
  · rw [if_pos h1, if_pos h1]
  · rw [if_neg h1, if_neg h1]
    by_cases h2 : 4096 < l.length
    · rw [if_pos h2, if_pos h2]
    · obtain ⟨e1, e2⟩ := zo_okB l (by omega)
      rw [if_neg h2, if_neg h2, e1]
      by_cases h3 : zoFine l = true
      · rw [if_pos h3, if_pos h3, e2 h3]
      · rw [if_neg h3, if_neg h3]
/-- The namespaces of bytes: those before the first zero. -/
def nsAll (l : List (BitVec 8)) : List (BitVec 32) := (List.range 1024).map fun i => (num l (4 * i) 4).setWidth 32
def nsRd (l : List (BitVec 8)) : List (BitVec 32) := (nsAll l).takeWhile (· != 0#32)
def nsOkB (l : List (BitVec 8)) : Bool := nsOkL (nsRd l) && (nsBL (nsRd l) == l)
def nsFine (l : List (BitVec 8)) : Bool := risB 0#32 (nsRd l) && allZ (l.drop (4 * (nsRd l).length))
theorem nsAll_len (l : List (BitVec 8)) : (nsAll l).length = 1024 := by unfold nsAll; rw [List.length_map, List.length_range]
theorem nsAll_get (l : List (BitVec 8)) (i : Nat) (h : i < 1024) : (nsAll l)[i]? = some ((num l (4 * i) 4).setWidth 32) := by unfold nsAll; rw [List.getElem?_map, List.getElem?_range h]; rfl
theorem nsRd_le (l : List (BitVec 8)) : (nsRd l).length ≤ 1024 := by
  have := (List.takeWhile_prefix (· != 0#32) (l := nsAll l)).length_le
  rw [nsAll_len] at this; exact this
theorem nsRd_take (l : List (BitVec 8)) : nsRd l = (nsAll l).take (nsRd l).length := (List.prefix_iff_eq_take.1 (List.takeWhile_prefix _))
theorem nsRd_get (l : List (BitVec 8)) (i : Nat) (h : i < (nsRd l).length) : (nsRd l)[i]? = some ((num l (4 * i) 4).setWidth 32) ∧ (num l (4 * i) 4).setWidth 32 ≠ 0#32 := by
  have h1 := nsRd_le l
  have e : (nsRd l)[i]? = some ((num l (4 * i) 4).setWidth 32) := by
    rw [nsRd_take, List.getElem?_take_of_lt h, nsAll_get l i (by omega)]
  refine ⟨e, ?_⟩
  have hm : (num l (4 * i) 4).setWidth 32 ∈ nsRd l := List.mem_of_getElem? e
  unfold nsRd at hm
  have := tw_all _ _ _ hm
  simpa using this
theorem takeWhile_end {α : Type} (p : α → Bool) (l : List α) (h : (l.takeWhile p).length < l.length) : ∃ x, l[(l.takeWhile p).length]? = some x ∧ p x = false := by
  induction l with
  | nil => exact absurd h (by simp)
  | cons y l ih =>
    rw [List.takeWhile_cons] at h ⊢
    cases hy : p y
    · rw [hy] at h; exact ⟨y, by simp, hy⟩
    · rw [hy] at h
      simp only [if_true, List.length_cons] at h ⊢
      obtain ⟨x, h1, h2⟩ := ih (by omega)
      exact ⟨x, by rw [List.getElem?_cons_succ]; exact h1, h2⟩
theorem nsRd_end (l : List (BitVec 8)) (h : (nsRd l).length < 1024) : (num l (4 * (nsRd l).length) 4).setWidth 32 = 0#32 := by
  obtain ⟨x, h1, h2⟩ := takeWhile_end (· != 0#32) (nsAll l) (by rw [nsAll_len]; exact h)
  replace h1 : (nsAll l)[(nsRd l).length]? = some x := h1
  rw [nsAll_get l _ h] at h1
  injection h1 with h1
  rw [← h1] at h2
  simpa using h2
/-- The first n dwords. -/
def nsN (l : List (BitVec 8)) (n : Nat) : List (BitVec 32) := (List.range n).map fun i => (num l (4 * i) 4).setWidth 32
theorem nsN_len (l : List (BitVec 8)) (n : Nat) : (nsN l n).length = n := by unfold nsN; rw [List.length_map, List.length_range]
theorem nsN_more (l : List (BitVec 8)) (n : Nat) : nsN l (n + 1) = nsN l n ++ [(num l (4 * n) 4).setWidth 32] := by unfold nsN; rw [List.range_succ, List.map_append]; rfl
theorem nsN_get (l : List (BitVec 8)) (n i : Nat) (h : i < n) : (nsN l n)[i]? = some ((num l (4 * i) 4).setWidth 32) := by unfold nsN; rw [List.getElem?_map, List.getElem?_range h]; rfl
theorem nsN_take (l : List (BitVec 8)) (n k : Nat) (h : k ≤ n) : (nsN l n).take k = nsN l k := by
  unfold nsN; rw [← List.map_take, List.take_range, Nat.min_eq_left h]
theorem nsRd_N (l : List (BitVec 8)) : nsRd l = nsN l (nsRd l).length := by
  refine (nsRd_take l).trans ?_
  exact nsN_take l 1024 _ (nsRd_le l)
theorem nsN_back (l : List (BitVec 8)) (h : l.length = 4096) (n : Nat) (h1 : n ≤ 1024) : (nsBL (nsN l n) == l) = allZ (l.drop (4 * n)) := by
  have hf : fl32 (nsN l n) = fieldsOf l 0 (List.replicate n (4, true)) := by
    rw [fieldsOf_true]
    unfold fl32 nsN
    rw [List.map_map]
    refine List.map_congr_left fun i hi => ?_
    have hi : i < n := List.mem_range.1 hi
    show (((num l (4 * i) 4).setWidth 32).setWidth 64, (4 : Int)) = (num l (0 + 4 * i) 4, _)
    rw [num_back32 l (4 * i) (by omega), Nat.zero_add]; rfl
  unfold nsBL
  rw [hf, page_back l _ (4096 - 4 * n) 4096 (fun s hs => by rw [List.eq_of_mem_replicate hs]; decide) (by rw [spSz_true]; omega) h, resOk_true, List.take_of_length_le (by rw [List.length_drop]; omega)]
theorem ns_back (l : List (BitVec 8)) (h : l.length = 4096) : (nsBL (nsRd l) == l) = allZ (l.drop (4 * (nsRd l).length)) := by
  have e := nsN_back l h _ (nsRd_le l)
  rw [← nsRd_N] at e
  exact e
theorem ns_dec (l : List (BitVec 8)) : decP 4096 nsRd nsOkB [] l = decP 4096 nsRd nsFine [] l := by
  refine decP_congr _ _ _ _ _ _ _ fun h => ⟨rfl, ?_⟩
  unfold nsOkB nsFine nsOkL
  rw [ns_back l h, decide_eq_true (nsRd_le l), Bool.true_and]
/-- Fields that are all laid. -/
def lT (fl : List WF) : List (WF × Bool) := fl.map fun f => (f, true)
theorem lT_fst (fl : List WF) : (lT fl).map (·.1) = fl := by unfold lT; rw [List.map_map]; exact List.map_id _
theorem plcT_more (s : Nat) (x : WF) : ∀ (fl : List WF) (a : Nat), (∀ f ∈ fl, f.2 = (s : Int)) → plc a (lT (fl ++ [x])) = plc a (lT fl) ++ [(a + s * fl.length, Wire.putB x.1 x.2)]
  | [], a, _ => by rw [List.length_nil, Nat.mul_zero, Nat.add_zero]; rfl
  | f :: fl, a, h => by
    have hf : f.2.toNat = s := by rw [h f List.mem_cons_self]; rfl
    have e : ∀ r : List WF, plc a (lT (f :: r)) = (a, Wire.putB f.1 f.2) :: plc (a + f.2.toNat) (lT r) := fun r => rfl
    rw [List.cons_append, e, e, hf, plcT_more s x fl (a + s) (fun g hg => h g (List.mem_cons_of_mem _ hg)), List.cons_append, List.length_cons, Nat.mul_succ, show a + s + s * fl.length = a + (s * fl.length + s) by omega]
theorem fl32_s (l : List (BitVec 32)) : ∀ f ∈ fl32 l, f.2 = ((4 : Nat) : Int) := fun f hf => by obtain ⟨x, -, rfl⟩ := List.mem_map.1 hf; rfl
theorem fl64_s (l : List (BitVec 64)) : ∀ f ∈ fl64 l, f.2 = ((8 : Nat) : Int) := fun f hf => by obtain ⟨x, -, rfl⟩ := List.mem_map.1 hf; rfl
theorem fl32_snoc (l : List (BitVec 32)) (x : BitVec 32) : fl32 (l ++ [x]) = fl32 l ++ [(x.setWidth 64, 4)] := by unfold fl32; rw [List.map_append]; rfl
theorem fl64_snoc (l : List (BitVec 64)) (x : BitVec 64) : fl64 (l ++ [x]) = fl64 l ++ [(x, 8)] := by unfold fl64; rw [List.map_append]; rfl
theorem fl32_n (l : List (BitVec 32)) : (fl32 l).length = l.length := by unfold fl32; rw [List.length_map]
theorem fl64_n (l : List (BitVec 64)) : (fl64 l).length = l.length := by unfold fl64; rw [List.length_map]
/-- What is laid so far. -/
def nsP (N : Nat) (l : List (BitVec 32)) : List (BitVec 8) := Lay.lays (List.replicate N 0#8) (plc 0 (lT (fl32 l)))
theorem nsP_more (N : Nat) (l : List (BitVec 32)) (x : BitVec 32) : Lay.lay (nsP N l) (4 * l.length) (Wire.le (x.setWidth 64) 4) = nsP N (l ++ [x]) := by
  unfold nsP
  rw [fl32_snoc, plcT_more 4 (x.setWidth 64, 4) (fl32 l) 0 (fl32_s l), Lay.lays_snoc, fl32_n, Nat.zero_add, (fit32 x).2]
theorem nsP_all (N : Nat) (l : List (BitVec 32)) (h : 4 * l.length ≤ N) : nsP N l = pageB N (fl32 l) := by
  have := lays_page (lT (fl32 l)) N (fun f hf => by
    obtain ⟨g, hg, rfl⟩ := List.mem_map.1 hf
    obtain ⟨x, -, rfl⟩ := List.mem_map.1 hg
    exact ⟨(fit32 x).1, fun h => by cases h⟩) (by rw [lT_fst, fl32_sz]; exact h)
  rw [lT_fst] at this
  exact this
theorem le_two (n : BitVec 64) (h : n.toNat < 65536) : Wire.le n 8 = Wire.le n 2 ++ List.replicate 6 0#8 := by
  have z : ∀ i, 2 ≤ i → (n >>> (8 * i)).setWidth 8 = 0#8 := fun i hi => by
    apply BitVec.eq_of_toNat_eq
    rw [BitVec.toNat_setWidth, BitVec.toNat_ushiftRight, Nat.shiftRight_eq_div_pow, Nat.div_eq_of_lt (Nat.lt_of_lt_of_le h (Nat.le_trans (by decide : 65536 ≤ 2 ^ 16) (Nat.pow_le_pow_right (by decide) (by omega))))]; rfl
  unfold Wire.le
  simp only [show List.range 8 = [0, 1, 2, 3, 4, 5, 6, 7] from rfl, show List.range 2 = [0, 1] from rfl, List.map_cons, List.map_nil]
  rw [z 2 (by decide), z 3 (by decide), z 4 (by decide), z 5 (by decide), z 6 (by decide), z 7 (by decide)]
  rfl
def zoP (n : Nat) (l : List (BitVec 64)) : List (BitVec 8) := Lay.lays (Lay.lay (List.replicate 4096 0#8) 0 (Wire.le (BitVec.ofNat 64 n) 2)) (plc 8 (lT (fl64 l)))
theorem zoP_nil (n : Nat) : zoP n [] = Lay.lay (List.replicate 4096 0#8) 0 (Wire.le (BitVec.ofNat 64 n) 2) := by
  unfold zoP
  rw [show plc 8 (lT (fl64 [])) = [] from rfl, Lay.lays_nil]
theorem nsP_nil (N : Nat) : nsP N [] = List.replicate N 0#8 := by
  unfold nsP
  rw [show plc 0 (lT (fl32 [])) = [] from rfl, Lay.lays_nil]
theorem zoP_more (n : Nat) (l : List (BitVec 64)) (x : BitVec 64) : Lay.lay (zoP n l) (8 + 8 * l.length) (Wire.le x 8) = zoP n (l ++ [x]) := by
  unfold zoP
  rw [fl64_snoc, plcT_more 8 (x, 8) (fl64 l) 8 (fl64_s l), Lay.lays_snoc, fl64_n, (fit64 x).2]
theorem zoP_all (l : List (BitVec 64)) (h : l.length ≤ 511) : zoP l.length l = zoBL l := by
  have hn : (BitVec.ofNat 64 l.length).toNat = l.length := by rw [BitVec.toNat_ofNat, Nat.mod_eq_of_lt (by omega)]
  have f2 := fit_any (BitVec.ofNat 64 l.length) 2 (by decide) (by decide) (by rw [hn]; omega)
  have f6 := fit0 6 (by decide) (by decide)
  have := lays_page (((BitVec.ofNat 64 l.length, 2), true) :: ((0#64, 6), false) :: lT (fl64 l)) 4096 (by
    rw [List.forall_mem_cons, List.forall_mem_cons]
    refine ⟨⟨f2.1, fun h => by cases h⟩, ⟨f6.1, fun _ => rfl⟩, fun f hf => ?_⟩
    obtain ⟨g, hg, rfl⟩ := List.mem_map.1 hf
    obtain ⟨x, -, rfl⟩ := List.mem_map.1 hg
    exact ⟨(fit64 x).1, fun h => by cases h⟩) (by
    rw [List.map_cons, List.map_cons, lT_fst]
    show 2 + (6 + sz (fl64 l)) ≤ 4096
    rw [fl64_sz]; omega)
  rw [List.map_cons, List.map_cons, lT_fst] at this
  have e1 : zoP l.length l = Lay.lays (List.replicate 4096 0#8) (plc 0 (((BitVec.ofNat 64 l.length, 2), true) :: ((0#64, 6), false) :: lT (fl64 l))) := by
    have : plc 0 (((BitVec.ofNat 64 l.length, 2), true) :: ((0#64, 6), false) :: lT (fl64 l)) = (0, Wire.putB (BitVec.ofNat 64 l.length) 2) :: plc 8 (lT (fl64 l)) := rfl
    rw [this, show Wire.putB (BitVec.ofNat 64 l.length) 2 = Wire.le (BitVec.ofNat 64 l.length) 2 from f2.2]
    rfl
  rw [e1, this]
  have e2 : Wire.cat ((BitVec.ofNat 64 l.length, 2) :: (0#64, 6) :: fl64 l) = Wire.cat (zoFl l) := by
    unfold zoFl Wire.cat
    rw [List.flatMap_cons, List.flatMap_cons, List.flatMap_cons, ← List.append_assoc]
    refine congrArg (· ++ _) ?_
    show Wire.putB (BitVec.ofNat 64 l.length) (2 : Nat) ++ Wire.putB 0#64 (6 : Nat) = Wire.putB (BitVec.ofNat 64 l.length) 8
    rw [f2.2, f6.2, (fit64 _).2, le_two _ (by rw [hn]; omega)]
  unfold zoBL pageB
  rw [e2]
/-- Effects. -/
def efB (a b : List (BitVec 32)) : List (BitVec 8) := nsBL (a ++ b)
def ioN (l : List (BitVec 8)) (n : Nat) : List (BitVec 32) := (List.range n).map fun i => (num l (1024 + 4 * i) 4).setWidth 32
theorem ioN_len (l : List (BitVec 8)) (n : Nat) : (ioN l n).length = n := by unfold ioN; rw [List.length_map, List.length_range]
theorem ioN_more (l : List (BitVec 8)) (n : Nat) : ioN l (n + 1) = ioN l n ++ [(num l (1024 + 4 * n) 4).setWidth 32] := by unfold ioN; rw [List.range_succ, List.map_append]; rfl
theorem ef_split (l : List (BitVec 8)) : nsN l 512 = nsN l 256 ++ ioN l 256 := by
  unfold nsN ioN
  rw [show (512 : Nat) = 256 + 256 from rfl, List.range_add, List.map_append, List.map_map]
  refine congrArg (fun z => (List.range 256).map (fun i => BitVec.setWidth 32 (num l (4 * i) 4)) ++ z) (List.map_congr_left fun i _ => ?_)
  show (num l (4 * (256 + i)) 4).setWidth 32 = _
  rw [show 4 * (256 + i) = 1024 + 4 * i by omega]
theorem ef_back (l : List (BitVec 8)) (h : l.length = 4096) : (efB (nsN l 256) (ioN l 256) == l) = allZ (l.drop 2048) := by
  unfold efB
  rw [← ef_split, nsN_back l h 512 (by decide)]
theorem lay_left (A B d : List (BitVec 8)) (p : Nat) (h : p + d.length ≤ A.length) : Lay.lay (A ++ B) p d = Lay.lay A p d ++ B := by
  unfold Lay.lay
  rw [List.take_append_of_le_length (by omega), List.drop_append_of_le_length h]; simp only [List.append_assoc]
theorem lay_right (A B d : List (BitVec 8)) (p : Nat) : Lay.lay (A ++ B) (A.length + p) d = A ++ Lay.lay B p d := by
  unfold Lay.lay
  rw [List.take_length_add_append, Nat.add_assoc, List.drop_length_add_append]; simp only [List.append_assoc]
theorem nsP_len (N : Nat) (l : List (BitVec 32)) (h : 4 * l.length ≤ N) : (nsP N l).length = N := by
  rw [nsP_all N l h]; exact pageB_len (by rw [cat_len0 _ (fl32_e l), fl32_sz]; exact h)
def efP (a b : List (BitVec 32)) : List (BitVec 8) := nsP 1024 a ++ nsP 3072 b
theorem efP_a (a b : List (BitVec 32)) (x : BitVec 32) (h : a.length < 256) : Lay.lay (efP a b) (4 * a.length) (Wire.le (x.setWidth 64) 4) = efP (a ++ [x]) b := by
  unfold efP
  rw [lay_left _ _ _ _ (by rw [nsP_len 1024 a (by omega), Wire.le_len]; omega), nsP_more]
theorem efP_b (a b : List (BitVec 32)) (x : BitVec 32) (h : a.length ≤ 256) : Lay.lay (efP a b) (1024 + 4 * b.length) (Wire.le (x.setWidth 64) 4) = efP a (b ++ [x]) := by
  unfold efP
  have e := nsP_len 1024 a (by omega)
  have := lay_right (nsP 1024 a) (nsP 3072 b) (Wire.le (x.setWidth 64) 4) (4 * b.length)
  rw [e] at this
  rw [this, nsP_more]
theorem efP_all (a b : List (BitVec 32)) (ha : a.length = 256) (hb : b.length = 256) : efP a b = efB a b := by
  unfold efP efB nsBL
  rw [nsP_all 1024 a (by omega), nsP_all 3072 b (by omega)]
  have e : fl32 (a ++ b) = fl32 a ++ fl32 b := by unfold fl32; rw [List.map_append]
  have c : Wire.cat (fl32 (a ++ b)) = Wire.cat (fl32 a) ++ Wire.cat (fl32 b) := by rw [e]; unfold Wire.cat; rw [List.flatMap_append]
  have na : (Wire.cat (fl32 a)).length = 1024 := by rw [cat_len0 _ (fl32_e a), fl32_sz]; omega
  have nb : (Wire.cat (fl32 b)).length = 1024 := by rw [cat_len0 _ (fl32_e b), fl32_sz]; omega
  unfold pageB
  rw [c, List.length_append, na, nb, Nat.sub_self, List.replicate_zero, List.append_nil, List.append_assoc]
end Lg
end Go.Proofs.YthnnopjakpjoeaaGreatDoor
namespace Go.Proofs.YthnnopjakpjoeaaGreatDoor
open Go.RowKit Lg
set_option linter.unusedVariables false
set_option linter.unusedSimpArgs false
namespace Lg
def isSpc (y : BitVec 8) : Bool := y == 32#8
def strip (s : List (BitVec 8)) : List (BitVec 8) := Wire.rstrip (s.dropWhile isSpc)
theorem dropWhile_map' {α β : Type} (f : α → β) (p : β → Bool) (q : α → Bool) (l : List α) (h : ∀ x ∈ l, p (f x) = q x) : (l.map f).dropWhile p = (l.dropWhile q).map f := by
  induction l with
  | nil => rfl
  | cons x l ih =>
    rw [List.map_cons, List.dropWhile_cons, List.dropWhile_cons, h x List.mem_cons_self, ih (fun y hy => h y (List.mem_cons_of_mem _ hy))]
    split <;> rfl
theorem mem_dropW {α : Type} (q : α → Bool) (l : List α) : ∀ x ∈ l.dropWhile q, x ∈ l := fun x hx => (List.dropWhile_suffix q).subset hx
theorem sp_byte (y : BitVec 8) (h : Wire.plainB y = true) : Lib.isSp (UInt8.ofBitVec y) = isSpc y := by
  unfold Wire.plainB at h
  rw [Bool.and_eq_true, decide_eq_true_eq, decide_eq_true_eq] at h
  have e : uv y = y.toNat := rfl
  rw [e] at h
  unfold Lib.isSp isSpc
  have hb : ∀ k : Nat, k < 256 → (UInt8.ofBitVec y == UInt8.ofNat k) = decide (y.toNat = k) := fun k hk => by
    rw [Bool.eq_iff_iff, beq_iff_eq, decide_eq_true_eq]
    constructor
    · intro h1
      have := congrArg UInt8.toNat h1
      rw [UInt8.toNat_ofNat'] at this
      have h2 : (UInt8.ofBitVec y).toNat = y.toNat := rfl
      omega
    · intro h1
      apply UInt8.toNat_inj.1
      rw [UInt8.toNat_ofNat']
      show y.toNat = _
      omega
  rw [show (9 : UInt8) = UInt8.ofNat 9 from rfl, show (10 : UInt8) = UInt8.ofNat 10 from rfl, show (11 : UInt8) = UInt8.ofNat 11 from rfl, show (12 : UInt8) = UInt8.ofNat 12 from rfl, show (13 : UInt8) = UInt8.ofNat 13 from rfl, show (32 : UInt8) = UInt8.ofNat 32 from rfl]
  rw [hb 9 (by decide), hb 10 (by decide), hb 11 (by decide), hb 12 (by decide), hb 13 (by decide), hb 32 (by decide)]
  rw [decide_eq_false (by omega : ¬ y.toNat = 9), decide_eq_false (by omega : ¬ y.toNat = 10), decide_eq_false (by omega : ¬ y.toNat = 11), decide_eq_false (by omega : ¬ y.toNat = 12), decide_eq_false (by omega : ¬ y.toNat = 13)]
  simp only [Bool.false_or]
  rw [Bool.eq_iff_iff, decide_eq_true_eq, beq_iff_eq]
  constructor
  · intro h1; exact BitVec.eq_of_toNat_eq h1
  · intro h1; rw [h1]; rfl
theorem plain_mem {s : List (BitVec 8)} (h : Wire.plain s = true) : ∀ y ∈ s, Wire.plainB y = true := by
  unfold Wire.plain at h; rwa [List.all_eq_true] at h
theorem plain_of {s : List (BitVec 8)} (h : ∀ y ∈ s, Wire.plainB y = true) : Wire.plain s = true := by
  unfold Wire.plain; rwa [List.all_eq_true]
theorem tS_strip {s : List (BitVec 8)} (h : Wire.plain s = true) : tS s = strOf (strip s) := by
  have hp := plain_mem h
  have e1 : (strOf s).data.toList = s.map UInt8.ofBitVec := rfl
  unfold tS Lib.trimSpace
  rw [e1, dropWhile_map' UInt8.ofBitVec Lib.isSp isSpc s (fun x hx => sp_byte x (hp x hx)), ← List.map_reverse, dropWhile_map' UInt8.ofBitVec Lib.isSp isSpc _ (fun x hx => sp_byte x (hp x (mem_dropW _ _ x (List.mem_reverse.1 hx)))), ← List.map_reverse]
  rfl
/-- A revision, as the reference has it. -/
def ends (s : List (BitVec 8)) : Bool := s.isEmpty || (!(s.head? == some 32#8) && !(s.getLast? == some 32#8))
def revOk (s : List (BitVec 8)) : Bool := decide (s.length ≤ 8) && (Wire.plain s && ends s)
theorem dropWhile_len {α : Type} (q : α → Bool) (l : List α) : (l.dropWhile q).length ≤ l.length := (List.dropWhile_suffix q).length_le
theorem rstrip_len (s : List (BitVec 8)) : (Wire.rstrip s).length ≤ s.length := by
  unfold Wire.rstrip
  rw [List.length_reverse]
  exact Nat.le_trans (dropWhile_len _ _) (by rw [List.length_reverse]; exact Nat.le_refl _)
theorem dropWhile_id {α : Type} (q : α → Bool) (l : List α) (h : ∀ x, l.head? = some x → q x = false) : l.dropWhile q = l := by
  cases l with
  | nil => rfl
  | cons x l => rw [List.dropWhile_cons, h x rfl]; rfl
theorem dropWhile_head {α : Type} (q : α → Bool) (l : List α) (h : l.dropWhile q = l) (x : α) (hx : l.head? = some x) : q x = false := by
  cases l with
  | nil => cases hx
  | cons y l =>
    injection hx with hx
    subst hx
    cases hq : q y
    · rfl
    · rw [List.dropWhile_cons, hq] at h
      have := congrArg List.length h
      have h2 := dropWhile_len q l
      simp at this
      omega
theorem strip_id (s : List (BitVec 8)) : (strip s == s) = ends s := by
  rw [Bool.eq_iff_iff, beq_iff_eq]
  unfold ends
  cases hs : s with
  | nil => simp [strip, Wire.rstrip]
  | cons y t =>
    rw [← hs]
    have hne : s.isEmpty = false := by rw [hs]; rfl
    rw [hne, Bool.false_or, Bool.and_eq_true, Bool.not_eq_true', Bool.not_eq_true', beq_eq_false_iff_ne, beq_eq_false_iff_ne]
    constructor
    · intro h
      have hl : (s.dropWhile isSpc).length = s.length := by
        have h1 := congrArg List.length h
        have h2 := rstrip_len (s.dropWhile isSpc)
        have h3 := dropWhile_len isSpc s
        unfold strip at h1
        omega
      have hd : s.dropWhile isSpc = s := (List.dropWhile_suffix isSpc).eq_of_length hl
      constructor
      · intro hh
        have := dropWhile_head isSpc s hd _ hh
        cases this
      · intro hh
        have hr : Wire.rstrip s = s := by unfold strip at h; rwa [hd] at h
        have hr2 : s.reverse.dropWhile (· == 32#8) = s.reverse := by
          have := congrArg List.reverse hr
          unfold Wire.rstrip at this
          rwa [List.reverse_reverse] at this
        have := dropWhile_head _ _ hr2 32#8 (by rw [List.head?_reverse]; exact hh)
        simp at this
    · rintro ⟨h1, h2⟩
      have hd : s.dropWhile isSpc = s := dropWhile_id isSpc s (fun x hx => by
        unfold isSpc
        exact beq_eq_false_iff_ne.2 (fun e => h1 (by rw [hx, e])))
      unfold strip
      rw [hd]
      unfold Wire.rstrip
      rw [dropWhile_id _ _ (fun x hx => beq_eq_false_iff_ne.2 (fun e => h2 (by rw [List.head?_reverse] at hx; rw [hx, e]))), List.reverse_reverse]
theorem padE_iff (s : List (BitVec 8)) : decide (Wire.padE s 8 = 0) = (decide (s.length ≤ 8) && Wire.plain s) := by
  unfold Wire.padE
  cases h : Wire.plain s
  · rw [if_pos (.inr rfl), Bool.and_false]; rfl
  · rw [if_neg (show ¬ ((8 : Int) < 0 ∨ true = false) by simp), Bool.and_true]
    by_cases hl : s.length ≤ 8
    · rw [if_neg (by omega), decide_eq_true hl]; rfl
    · rw [if_pos (by left; omega), decide_eq_false hl]; rfl
theorem rv_eq (s : List (BitVec 8)) : rvOk s = revOk s := by
  unfold rvOk revOk
  rw [padE_iff, Bool.and_assoc]
  cases h : Wire.plain s
  · rw [Bool.false_and, Bool.false_and]
  · rw [tS_strip h, strOf_beq, strip_id]
theorem rstrip_tail (t : List (BitVec 8)) : t = Wire.rstrip t ++ List.replicate (t.length - (Wire.rstrip t).length) 32#8 := by
  have h := List.takeWhile_append_dropWhile (p := (· == 32#8)) (l := t.reverse)
  have e : t = (t.reverse.dropWhile (· == 32#8)).reverse ++ (t.reverse.takeWhile (· == 32#8)).reverse := by
    have := congrArg List.reverse h
    rw [List.reverse_append, List.reverse_reverse] at this
    exact this.symm
  have hall : ∀ x ∈ t.reverse.takeWhile (· == 32#8), x = 32#8 := fun x hx => by simpa using tw_all _ _ x hx
  have hr : t.reverse.takeWhile (· == 32#8) = List.replicate (t.reverse.takeWhile (· == 32#8)).length 32#8 := List.eq_replicate_iff.2 ⟨rfl, hall⟩
  have hlen : (t.reverse.takeWhile (· == 32#8)).length = t.length - (Wire.rstrip t).length := by
    have := congrArg List.length e
    simp only [List.length_append, List.length_reverse] at this
    unfold Wire.rstrip
    rw [List.length_reverse]
    omega
  conv => lhs; rw [e]
  rw [hr, List.reverse_replicate, hlen]
  rfl
theorem rstrip_last (t : List (BitVec 8)) : (Wire.rstrip t).getLast? ≠ some 32#8 := by
  intro h
  unfold Wire.rstrip at h
  rw [List.getLast?_reverse] at h
  have : ∀ l : List (BitVec 8), (l.dropWhile (· == 32#8)).head? ≠ some 32#8 := fun l => by
    induction l with
    | nil => simp
    | cons x l ih =>
      rw [List.dropWhile_cons]
      cases hx : (x == 32#8)
      · simp at hx; simp [hx]
      · simp only [if_true]; exact ih
  exact this _ h
/-- A revision's eight bytes. -/
def sltC (s : List (BitVec 8)) : List (BitVec 8) := if s = [] then List.replicate 8 0#8 else Wire.pad s 8
theorem pad_eq {s : List (BitVec 8)} (hp : Wire.plain s = true) (hl : s.length ≤ 8) : Wire.pad s 8 = s ++ List.replicate (8 - s.length) 32#8 := by
  have h : Wire.padE s 8 = 0 := by
    have := padE_iff s
    rw [hp, decide_eq_true hl] at this
    exact of_decide_eq_true this
  unfold Wire.pad
  rw [if_pos h]; rfl
def ckM (t : List (BitVec 8)) : Bool := rvOk (Wire.text t) && (sltC (Wire.text t) == t)
def rvR (t : List (BitVec 8)) : List (BitVec 8) := if allZ t then [] else Wire.rstrip t
def ckR (t : List (BitVec 8)) : Bool := allZ t || (!(Wire.rstrip t).isEmpty && revOk (Wire.rstrip t))
theorem zer_plain : Wire.plain (List.replicate 8 0#8) = false := by decide
theorem allZ_8 {t : List (BitVec 8)} (ht : t.length = 8) (h : allZ t = true) : t = List.replicate 8 0#8 := by
  have := allZ_iff.1 h; rwa [ht] at this
theorem rv_nil : rvOk [] = true := by rw [rv_eq]; rfl
theorem plain_rstrip {t : List (BitVec 8)} (h : Wire.plain (Wire.rstrip t) = true) : Wire.plain t = true := by
  rw [rstrip_tail t]
  refine plain_of fun y hy => ?_
  rcases List.mem_append.1 hy with h1 | h1
  · exact plain_mem h y h1
  · rw [List.eq_of_mem_replicate h1]; decide
theorem plain_rstrip' {t : List (BitVec 8)} (h : Wire.plain t = true) : Wire.plain (Wire.rstrip t) = true := by
  refine plain_of fun y hy => plain_mem h y ?_
  unfold Wire.rstrip at hy
  exact List.mem_reverse.1 (mem_dropW _ _ y (List.mem_reverse.1 hy))
theorem ck_eq (t : List (BitVec 8)) (ht : t.length = 8) : ckM t = ckR t := by
  unfold ckM ckR
  cases hz : allZ t
  · rw [Bool.false_or]
    have hzt : (List.replicate 8 0#8 == t) = false := by
      refine beq_eq_false_iff_ne.2 fun e => ?_
      rw [← e] at hz; exact absurd hz (by decide)
    cases hp : Wire.plain t
    · have e : Wire.text t = [] := by unfold Wire.text; rw [hp]; rfl
      rw [e]
      have e2 : sltC [] = List.replicate 8 0#8 := rfl
      rw [e2, hzt, Bool.and_false]
      have : revOk (Wire.rstrip t) = false := by
        unfold revOk
        cases hq : Wire.plain (Wire.rstrip t)
        · rw [Bool.false_and, Bool.and_false]
        · rw [plain_rstrip hq] at hp; cases hp
      rw [this, Bool.and_false]
    · have e : Wire.text t = Wire.rstrip t := by unfold Wire.text; rw [hp]; rfl
      rw [e, rv_eq]
      cases hr : (Wire.rstrip t).isEmpty
      · have hne : Wire.rstrip t ≠ [] := by intro h; rw [h] at hr; cases hr
        have hl := rstrip_len t
        have h1 : sltC (Wire.rstrip t) = t := by
          unfold sltC
          rw [if_neg hne, pad_eq (plain_rstrip' hp) (by omega)]
          have := rstrip_tail t
          rw [ht] at this
          exact this.symm
        rw [h1, beq_self_eq_true, Bool.and_true, Bool.not_false, Bool.true_and]
      · have hn : Wire.rstrip t = [] := List.isEmpty_iff.1 hr
        rw [hn]
        have e2 : sltC [] = List.replicate 8 0#8 := rfl
        rw [e2, hzt, Bool.and_false]; rfl
  · have e1 := allZ_8 ht hz
    have e : Wire.text t = [] := by unfold Wire.text; rw [e1, zer_plain]; rfl
    rw [e, rv_nil, Bool.true_or]
    have e2 : sltC [] = List.replicate 8 0#8 := rfl
    rw [e2, ← e1, beq_self_eq_true]; rfl
theorem rv_same (t : List (BitVec 8)) (ht : t.length = 8) (h : ckR t = true) : rvR t = Wire.text t := by
  unfold ckR at h
  unfold rvR
  cases hz : allZ t
  · rw [hz, Bool.false_or, Bool.and_eq_true] at h
    have hr := h.2
    unfold revOk at hr
    rw [Bool.and_eq_true, Bool.and_eq_true] at hr
    unfold Wire.text
    rw [plain_rstrip hr.2.1]; rfl
  · have e1 := allZ_8 ht hz
    unfold Wire.text
    rw [e1, zer_plain]; rfl
/-- A text that was written is read back. -/
theorem text_back (s : List (BitVec 8)) (h : rvOk s = true) : Wire.text (sltC s) = s ∧ (sltC s).length = 8 := by
  rw [rv_eq] at h
  unfold revOk at h
  rw [Bool.and_eq_true, Bool.and_eq_true] at h
  obtain ⟨h1, h2, h3⟩ := h
  have hl := of_decide_eq_true h1
  unfold sltC
  by_cases hs : s = []
  · rw [if_pos hs, hs]
    exact ⟨by unfold Wire.text; rw [zer_plain]; rfl, rfl⟩
  · rw [if_neg hs, pad_eq h2 hl]
    constructor
    · have hp : Wire.plain (s ++ List.replicate (8 - s.length) 32#8) = true := plain_of fun y hy => by
        rcases List.mem_append.1 hy with h4 | h4
        · exact plain_mem h2 y h4
        · rw [List.eq_of_mem_replicate h4]; decide
      unfold Wire.text
      rw [hp]
      simp only [if_true]
      unfold Wire.rstrip
      rw [List.reverse_append, List.reverse_replicate]
      have hd : ∀ (n : Nat) (l : List (BitVec 8)), (List.replicate n 32#8 ++ l).dropWhile (· == 32#8) = l.dropWhile (· == 32#8) := fun n l => by
        induction n with
        | zero => rfl
        | succ n ih => rw [List.replicate_succ, List.cons_append, List.dropWhile_cons]; exact ih
      rw [hd]
      unfold ends at h3
      have hne : s.isEmpty = false := by cases s with | nil => exact absurd rfl hs | cons y t => rfl
      rw [hne, Bool.false_or, Bool.and_eq_true, Bool.not_eq_true', Bool.not_eq_true', beq_eq_false_iff_ne, beq_eq_false_iff_ne] at h3
      rw [dropWhile_id _ _ (fun x hx => beq_eq_false_iff_ne.2 (fun e => h3.2 (by rw [List.head?_reverse] at hx; rw [hx, e]))), List.reverse_reverse]
    · rw [List.length_append, List.length_replicate]; omega
theorem text_len {t : List (BitVec 8)} (ht : t.length = 8) : (sltC (Wire.text t)).length = 8 ∧ (Wire.text t).length ≤ 8 := by
  unfold Wire.text
  cases hp : Wire.plain t
  · simp only [Bool.false_eq_true, if_false]
    exact ⟨rfl, by decide⟩
  · simp only [if_true]
    have hl := rstrip_len t
    refine ⟨?_, by omega⟩
    unfold sltC
    by_cases h : Wire.rstrip t = []
    · rw [if_pos h]; rfl
    · rw [if_neg h, pad_eq (plain_rstrip' hp) (by omega), List.length_append, List.length_replicate]; omega
theorem sltP_lays : ∀ (rv : List (List (BitVec 8))) (i : Nat) (A : List (BitVec 8)) (m : Nat), A.length = 8 + 8 * i → (∀ s ∈ rv, rvOk s = true) → 8 * rv.length ≤ m → Lay.lays (A ++ List.replicate m 0#8) (sltP i rv) = A ++ (rv.flatMap sltC ++ List.replicate (m - 8 * rv.length) 0#8)
  | [], i, A, m, _, _, _ => by
    unfold sltP
    rw [Lay.lays_nil]; rfl
  | s :: r, i, A, m, hA, hr, hm => by
    rw [List.length_cons] at hm
    have h8 := (text_back s (hr s List.mem_cons_self)).2
    have e : Lay.lays (A ++ List.replicate m 0#8) (if s = [] then [] else [(8 + 8 * i, Wire.pad s 8)]) = (A ++ sltC s) ++ List.replicate (m - 8) 0#8 := by
      unfold sltC at h8 ⊢
      by_cases hs : s = []
      · rw [if_pos hs, if_pos hs, Lay.lays_nil, List.append_assoc, List.replicate_append_replicate, show 8 + (m - 8) = m by omega]
      · rw [if_neg hs] at h8
        rw [if_neg hs, if_neg hs]
        show Lay.lay (A ++ List.replicate m 0#8) (8 + 8 * i) (Wire.pad s 8) = _
        have := lay_right A (List.replicate m 0#8) (Wire.pad s 8) 0
        rw [hA, Nat.add_zero] at this
        rw [this, lay_zeros, h8, List.append_assoc]
    unfold sltP
    rw [Lay.lays_append, e, sltP_lays r (i + 1) (A ++ sltC s) (m - 8) (by rw [List.length_append, hA, h8]; omega) (fun t ht => hr t (List.mem_cons_of_mem _ ht)) (by omega), List.flatMap_cons, List.length_cons, List.append_assoc, List.append_assoc, show m - 8 - 8 * r.length = m - 8 * (r.length + 1) by omega]
def sltV (x : Slt) : BitVec 8 := BitVec.ofNat 8 (x.act + 16 * x.nxt).toNat
theorem sltH_rng {x : Slt} (h : sltH x = true) : 1 ≤ x.act ∧ x.act ≤ 7 ∧ 0 ≤ x.nxt ∧ x.nxt ≤ 7 := of_decide_eq_true h
theorem sltHd_page {x : Slt} (h : sltH x = true) : pageB 512 (sltHd x) = ([sltV x] ++ List.replicate 7 0#8) ++ List.replicate 504 0#8 := by
  have hr := sltH_rng h
  obtain ⟨v, hv⟩ : ∃ v : Nat, x.act + 16 * x.nxt = (v : Int) := ⟨(x.act + 16 * x.nxt).toNat, by omega⟩
  have hv2 : v ≤ 119 := by omega
  have hn : (BitVec.ofNat 64 v).toNat = v := by rw [BitVec.toNat_ofNat, Nat.mod_eq_of_lt (by omega)]
  have hf := (fit_any (BitVec.ofNat 64 v) 1 (by decide) (by decide) (by rw [hn]; omega)).2
  have hc : Wire.cat (sltHd x) = [sltV x] := by
    unfold sltHd Wire.cat sltV
    rw [hv, Int.toNat_natCast, List.flatMap_cons, List.flatMap_nil, List.append_nil]
    refine hf.trans ?_
    unfold Wire.le
    rw [show List.range 1 = [0] from rfl, List.map_cons, List.map_nil]
    refine congrArg (fun z => [z]) ?_
    apply BitVec.eq_of_toNat_eq
    rw [BitVec.toNat_setWidth, BitVec.toNat_ushiftRight, hn, BitVec.toNat_ofNat]
    show v >>> 0 % 256 = v % 256
    rw [Nat.shiftRight_zero]
  unfold pageB
  rw [hc, List.append_assoc, List.replicate_append_replicate]; rfl
theorem sltB_eq {x : Slt} (hx : x.rv.length = 7) (h : sltOk x = true) : sltB x = [sltV x] ++ (List.replicate 7 0#8 ++ (x.rv.flatMap sltC ++ List.replicate 448 0#8)) := by
  unfold sltOk at h
  rw [Bool.and_eq_true] at h
  obtain ⟨h1, h2⟩ := h
  rw [List.all_eq_true] at h2
  unfold sltB
  rw [sltHd_page h1, sltP_lays x.rv 0 _ 504 rfl h2 (by omega), hx, List.append_assoc]
theorem beq_app {a b c d : List (BitVec 8)} (h : a.length = c.length) : ((a ++ b) == (c ++ d)) = ((a == c) && (b == d)) := by
  rw [Bool.eq_iff_iff, Bool.and_eq_true, beq_iff_eq, beq_iff_eq, beq_iff_eq]
  constructor
  · intro e; exact List.append_inj e h
  · rintro ⟨rfl, rfl⟩; rfl
theorem all_and2 (p q : Nat → Bool) (is : List Nat) : is.all (fun i => p i && q i) = (is.all p && is.all q) := by
  induction is with
  | nil => rfl
  | cons i is ih =>
    rw [List.all_cons, List.all_cons, List.all_cons, ih]
    cases p i <;> cases q i <;> cases is.all p <;> rfl
theorem beq_flat (f g : Nat → List (BitVec 8)) (is : List Nat) (hf : ∀ i ∈ is, (f i).length = 8) (hg : ∀ i ∈ is, (g i).length = 8) : (is.flatMap f == is.flatMap g) = is.all (fun i => f i == g i) := by
  induction is with
  | nil => rfl
  | cons i is ih =>
    rw [List.flatMap_cons, List.flatMap_cons, beq_app (by rw [hf i List.mem_cons_self, hg i List.mem_cons_self]), ih (fun j hj => hf j (List.mem_cons_of_mem _ hj)) (fun j hj => hg j (List.mem_cons_of_mem _ hj)), List.all_cons]
def chk (l : List (BitVec 8)) (i : Nat) : List (BitVec 8) := cut l (8 + 8 * i) 8
theorem chk_len (l : List (BitVec 8)) (hl : l.length = 512) (i : Nat) (hi : i < 7) : (chk l i).length = 8 := cut_len (by omega)
theorem chunks (l : List (BitVec 8)) : ∀ k : Nat, 8 + 8 * k ≤ l.length → l.drop 8 = (List.range k).flatMap (chk l) ++ l.drop (8 + 8 * k)
  | 0, _ => rfl
  | k + 1, h => by
    rw [chunks l k (by omega), List.range_succ, List.flatMap_append, List.flatMap_cons, List.flatMap_nil, List.append_nil, List.append_assoc]
    refine congrArg (_ ++ ·) ?_
    unfold chk cut
    have e2 : (l.drop (8 + 8 * k)).drop 8 = l.drop (8 + 8 * (k + 1)) := by rw [List.drop_drop, show 8 + 8 * k + 8 = 8 + 8 * (k + 1) by omega]
    rw [← e2]
    exact (List.take_append_drop 8 _).symm
theorem l_parts (l : List (BitVec 8)) (hl : l.length = 512) : ∃ y, l[0]? = some y ∧ l = [y] ++ (cut l 1 7 ++ ((List.range 7).flatMap (chk l) ++ l.drop 64)) := by
  match l, hl with
  | y :: r, hl =>
    refine ⟨y, rfl, ?_⟩
    have h := chunks (y :: r) 7 (by rw [hl]; decide)
    have h2 : (y :: r).drop 1 = cut (y :: r) 1 7 ++ (y :: r).drop 8 := by
      have e2 : ((y :: r).drop 1).drop 7 = (y :: r).drop 8 := by rw [List.drop_drop]
      unfold cut
      rw [← e2]
      exact (List.take_append_drop 7 _).symm
    rw [← h, ← h2]; rfl
def sltRd (l : List (BitVec 8)) : Slt := ⟨(((num l 0 1).toNat % 16 : Nat) : Int), (((num l 0 1).toNat / 16 : Nat) : Int), (List.range 7).map fun i => Wire.text (chk l i)⟩
def sltOkB (l : List (BitVec 8)) : Bool := sltOk (sltRd l) && (sltB (sltRd l) == l)
def hdrB (v : Nat) : Bool := (decide (1 ≤ v % 16) && decide (v % 16 ≤ 7)) && decide (v / 16 ≤ 7)
def sltFine (l : List (BitVec 8)) (k : Nat) : Bool := ((hdrB (num l 0 1).toNat && allZ (cut l 1 7)) && allZ (l.drop 64)) && (List.range k).all (fun i => ckR (chk l i))
theorem sltFine_more (l : List (BitVec 8)) (k : Nat) : sltFine l (k + 1) = (sltFine l k && ckR (chk l k)) := by
  unfold sltFine
  rw [List.range_succ, List.all_append, List.all_cons, List.all_nil, Bool.and_true, Bool.and_assoc, Bool.and_assoc, Bool.and_assoc, Bool.and_assoc, Bool.and_assoc]
theorem num_first (l : List (BitVec 8)) (y : BitVec 8) (h : l[0]? = some y) : (num l 0 1).toNat = y.toNat := by
  match l, h with
  | z :: r, h =>
    injection h with h
    subst h
    have e : num (z :: r) 0 1 = Wire.get [z] := rfl
    rw [e, get_consN _ _ (by decide)]
    show _ + 256 * 0 = _
    omega
theorem allZ_beq (l : List (BitVec 8)) (n : Nat) (h : l.length = n) : (List.replicate n 0#8 == l) = allZ l := by
  rw [Bool.eq_iff_iff, beq_iff_eq, allZ_iff, h]
  exact ⟨fun e => e.symm, fun e => e.symm⟩
theorem slt_ok (l : List (BitVec 8)) (hl : l.length = 512) : sltOkB l = sltFine l 7 := by
  obtain ⟨y, hy, hp⟩ := l_parts l hl
  have hn := num_first l y hy
  have hyl := y.isLt
  have hH : sltH (sltRd l) = hdrB (num l 0 1).toNat := by
    unfold sltH hdrB sltRd
    dsimp only
    rw [hn, Bool.eq_iff_iff]
    simp only [Bool.and_eq_true, decide_eq_true_eq]
    omega
  have hrv : ∀ i, i < 7 → (chk l i).length = 8 := fun i hi => chk_len l hl i hi
  have hall : (sltRd l).rv.all rvOk = (List.range 7).all (fun i => rvOk (Wire.text (chk l i))) := by
    unfold sltRd; dsimp only; rw [List.all_map]; rfl
  have hck : (List.range 7).all (fun i => ckR (chk l i)) = ((List.range 7).all (fun i => rvOk (Wire.text (chk l i))) && (List.range 7).all (fun i => sltC (Wire.text (chk l i)) == chk l i)) := by
    rw [← all_and2]
    rw [Bool.eq_iff_iff, List.all_eq_true, List.all_eq_true]
    constructor <;> intro h i hi <;> (have h2 := h i hi; have h3 := ck_eq (chk l i) (hrv i (List.mem_range.1 hi)); unfold ckM at h3)
    · rw [h3]; exact h2
    · rw [← h3]; exact h2
  unfold sltOkB sltFine
  cases ho : sltOk (sltRd l)
  · rw [Bool.false_and]
    unfold sltOk at ho
    rw [hH, hall] at ho
    rw [hck]
    cases h1 : hdrB (num l 0 1).toNat
    · rfl
    · rw [h1, Bool.true_and] at ho
      rw [ho, Bool.false_and, Bool.and_false]
  · rw [Bool.true_and]
    have hb := sltB_eq (x := sltRd l) (by unfold sltRd; dsimp only; rw [List.length_map, List.length_range]) ho
    unfold sltOk at ho
    rw [hH, hall, Bool.and_eq_true] at ho
    have hv : sltV (sltRd l) = y := by
      apply BitVec.eq_of_toNat_eq
      unfold sltV sltRd
      dsimp only
      rw [hn, BitVec.toNat_ofNat, show (((y.toNat % 16 : Nat) : Int) + 16 * ((y.toNat / 16 : Nat) : Int)).toNat = y.toNat by omega, Nat.mod_eq_of_lt hyl]
    have hfl : (sltRd l).rv.flatMap sltC = (List.range 7).flatMap (fun i => sltC (Wire.text (chk l i))) := by
      unfold sltRd; dsimp only; rw [List.flatMap_map]
    rw [hck, ho.1, ho.2, hb, hv, hfl]
    have key : ∀ X : List (BitVec 8), (X == l) = (X == [y] ++ (cut l 1 7 ++ ((List.range 7).flatMap (chk l) ++ l.drop 64))) := fun X => congrArg (fun z => X == z) hp
    rw [key]
    have c7 : (cut l 1 7).length = 7 := cut_len (by omega)
    rw [beq_app rfl, beq_app (by rw [List.length_replicate, c7]), allZ_beq _ 7 c7]
    have f1 : ∀ i ∈ List.range 7, (sltC (Wire.text (chk l i))).length = 8 := fun i hi => (text_len (hrv i (List.mem_range.1 hi))).1
    have f2 : ∀ i ∈ List.range 7, (chk l i).length = 8 := fun i hi => hrv i (List.mem_range.1 hi)
    have hlen : ((List.range 7).flatMap (fun i => sltC (Wire.text (chk l i)))).length = ((List.range 7).flatMap (chk l)).length := by
      rw [List.length_flatMap, List.length_flatMap]
      congr 1
      exact List.map_congr_left (fun i hi => by rw [f1 i hi, f2 i hi])
    rw [beq_app hlen, beq_flat _ _ _ f1 f2, allZ_beq _ 448 (by rw [List.length_drop, hl])]
    simp only [beq_self_eq_true, Bool.true_and]
    cases allZ (cut l 1 7) <;> cases allZ (l.drop 64) <;> cases (List.range 7).all (fun i => sltC (Wire.text (chk l i)) == chk l i) <;> rfl
end Lg
end Go.Proofs.YthnnopjakpjoeaaGreatDoor
namespace Go.Proofs.YthnnopjakpjoeaaGreatDoor
open Go.RowKit Lg
set_option linter.unusedVariables false
set_option linter.unusedSimpArgs false
namespace Lg
def sltZ : Slt := ⟨0, 0, List.replicate 7 []⟩
/-- What is held when k texts have been read. -/
def sltX (l : List (BitVec 8)) (k : Nat) : Slt := { sltRd l with rv := (sltRd l).rv.take k ++ List.replicate (7 - k) [] }
def sltA (l : List (BitVec 8)) (k : Nat) : Array Value := (Slt.cells (sltX l k)).toArray
theorem sltRd_len (l : List (BitVec 8)) : (sltRd l).rv.length = 7 := by unfold sltRd; dsimp only; rw [List.length_map, List.length_range]
theorem sltX_len (l : List (BitVec 8)) (k : Nat) (hk : k ≤ 7) : (sltX l k).rv.length = 7 := by
  unfold sltX; dsimp only; rw [List.length_append, List.length_take, List.length_replicate, sltRd_len]; omega
theorem slt_size (x : Slt) (h : x.rv.length = 7) : (Slt.cells x).toArray.size = 9 := by
  rw [List.size_toArray]; unfold Slt.cells; rw [List.length_cons, List.length_cons, List.length_map, h]
theorem slt_one (x : Slt) : (Slt.cells x).toArray.all (·.oneCell') = true := by
  rw [List.all_toArray]; unfold Slt.cells; simp [strV, Value.oneCell']
theorem sltA_set (l : List (BitVec 8)) (k : Nat) (s : List (BitVec 8)) (hk : k < 7) (hs : Wire.text (chk l k) = s) : (sltA l k).setIfInBounds (2 + k) (.string (strOf s)) = sltA l (k + 1) := by
  have hg : (sltRd l).rv[k]? = some s := by unfold sltRd; dsimp only; rw [List.getElem?_map, List.getElem?_range hk, ← hs]; rfl
  obtain ⟨hkl, hke⟩ := List.getElem?_eq_some_iff.1 hg
  have e1 : (sltX l (k + 1)).rv = (sltX l k).rv.set k s := by
    unfold sltX; dsimp only
    rw [List.take_succ_eq_append_getElem hkl, hke, show 7 - k = (7 - (k + 1)) + 1 by omega, List.replicate_succ, List.append_assoc]
    have hl : ((sltRd l).rv.take k).length = k := by rw [List.length_take, sltRd_len]; omega
    rw [List.set_append_right _ _ (by omega), hl, Nat.sub_self]; rfl
  unfold sltA
  rw [List.setIfInBounds_toArray]
  refine congrArg List.toArray ?_
  unfold Slt.cells
  rw [e1, List.map_set]
  rw [show 2 + k = (k + 1) + 1 by omega, List.set_cons_succ, List.set_cons_succ]; rfl
theorem sltA_seven (l : List (BitVec 8)) : sltA l 7 = (Slt.cells (sltRd l)).toArray := by
  unfold sltA sltX
  rw [List.take_of_length_le (by rw [sltRd_len]; decide), Nat.sub_self, List.replicate_zero, List.append_nil]
theorem sltA_get (l : List (BitVec 8)) (k : Nat) (hk : k < 7) : (sltA l k)[2 + k]? = some (.string (strOf [])) := by
  unfold sltA
  rw [List.getElem?_toArray]
  unfold Slt.cells
  rw [show 2 + k = (k + 1) + 1 by omega, List.getElem?_cons_succ, List.getElem?_cons_succ, List.getElem?_map]
  unfold sltX; dsimp only
  rw [List.getElem?_append_right (by rw [List.length_take]; omega), List.length_take, sltRd_len, Nat.min_eq_left (by omega), Nat.sub_self, List.getElem?_replicate, if_pos (by omega)]; rfl
theorem slt_dec_len {f : List (BitVec 8) → Bool} {l : List (BitVec 8)} {y : Slt} {e : Int} (h : decP 512 sltRd f sltZ l = (y, e)) : y.rv.length = 7 := by
  unfold decP at h
  repeat' (split at h)
  all_goals (cases h)
  all_goals first | rfl | exact sltRd_len l
theorem rd_short (l : List (BitVec 8)) (hl : l.length = 512) : ∀ s ∈ (sltRd l).rv, s.length ≤ 9223372036854775807 := by
  intro s hs
  unfold sltRd at hs; dsimp only at hs
  obtain ⟨i, hi, rfl⟩ := List.mem_map.1 hs
  have := (text_len (chk_len l hl i (List.mem_range.1 hi))).2
  omega
end Lg
theorem rd_chgS {w w' : World} {T : TypeId} {r d Y : Nat} {v : Value} {l : List (BitVec 8)} {n : Nat} (h : RdAt w T r d v l n) (c : Chg (fun b => b = Y) w w') (hY : r < Y) : RdAt w' T r d v l n :=
  ⟨c.blk h.blk (by omega), h.bytes.chg c (fun g o m k e hg => by have h1 := h.old ⟨g, o, none⟩ m k e; have h2 := h.le; simp only at h1; omega), h.small, h.old, h.le⟩
set_option maxHeartbeats 3200000 in
set_option maxRecDepth 20000 in
theorem readSl_at {d : Nat} (p : Nat) (v : Value) (l : List (BitVec 8)) (w : World) (hp : RdAt w 165 p d v l 0) (hl : l.length = 512) :
    Calls Tryz.prog 34 #[.pointer (some ⟨p, 0, none⟩)] w fun e w' => e = .returned (.agg (Slt.cells (sltRd l)).toArray) ∧ Chg (fun b => b = p) w w' := by
  obtain ⟨x0, hx0⟩ : ∃ x, num l 0 1 = x := ⟨_, rfl⟩
  obtain ⟨b0, hb0⟩ : ∃ b : Nat, x0.toNat = b := ⟨_, rfl⟩
  have hb256 : b0 < 256 := by rw [← hb0, ← hx0]; exact num_lt l 0 1 (by omega) (by decide)
  have HU := Lib.hid (show uv x0 = (b0 : Int) by rw [← hb0]; rfl)
  have A0 := Lib.hid (show sltA l 0 = #[.int .i64 ((b0 % 16 : Nat) : Int), .int .i64 ((b0 / 16 : Nat) : Int), .string ⟨#[]⟩, .string ⟨#[]⟩, .string ⟨#[]⟩, .string ⟨#[]⟩, .string ⟨#[]⟩, .string ⟨#[]⟩, .string ⟨#[]⟩] by rw [← hb0, ← hx0]; rfl)
  have AS := Lib.hid (fun (k : Nat) (s : List (BitVec 8)) (hk : k < 7) (hs : Wire.text (chk l k) = s) => sltA_set l k s hk hs)
  have AG := Lib.hid (fun (k : Nat) (hk : k < 7) => sltA_get l k hk)
  have AZ := Lib.hid (slt_size _ (sltX_len l 7 (Nat.le_refl _)))
  have AO := Lib.hid (show (sltA l 7).all (·.oneCell') = true from slt_one _)
  rw [← sltA_seven l]
  replace AZ := Lib.hid (show (sltA l 7).size = 9 from AZ.out)
  obtain ⟨A, hA⟩ : ∃ A, sltA l = A := ⟨_, rfl⟩
  rw [hA] at A0 AS AG AZ AO
  rw [hA]
  clear hA
  have H0 := Lib.hid hx0; have HL := Lib.hid hl
  have PLT := Lib.hid hp.lt
  obtain ⟨w0, hW⟩ : ∃ W, W = w.alloc (.cells #[.int .i64 0, .int .i64 0, .string ⟨#[]⟩, .string ⟨#[]⟩, .string ⟨#[]⟩, .string ⟨#[]⟩, .string ⟨#[]⟩, .string ⟨#[]⟩, .string ⟨#[]⟩] 24) := ⟨_, rfl⟩
  have D := Lib.hid (show Below w.heap.size w w0 by rw [hW]; exact gr_alloc w _)
  have X0 := Lib.hid (show w0.heap[w.heap.size]? = some (.cells #[.int .i64 0, .int .i64 0, .string ⟨#[]⟩, .string ⟨#[]⟩, .string ⟨#[]⟩, .string ⟨#[]⟩, .string ⟨#[]⟩, .string ⟨#[]⟩, .string ⟨#[]⟩] 24 (0, 0)) by rw [hW]; exact heap_alloc_new w _)
  have R0 := Lib.hid (show RdAt w0 165 p d v (l.drop 0) 0 by rw [List.drop_zero]; exact hp.below D.out)
  have NP := Lib.hid (show ¬ w.heap.size = p by have := PLT.out; omega)
  obtain ⟨am, ham⟩ : ∃ a, b0 % 16 = a := ⟨_, rfl⟩
  obtain ⟨nm, hnm⟩ : ∃ a, b0 / 16 = a := ⟨_, rfl⟩
  rw [ham, hnm] at A0
  have hrem : (b0 : Int).tmod 16 = (am : Int) := by rw [← ham]; rfl
  have hquo : (b0 : Int).tdiv 16 = (nm : Int) := by rw [← hnm]; rfl
  have hrem2 : (b0 : Int) % 16 = (am : Int) := by rw [← ham]; rfl
  have hquo2 : (b0 : Int) / 16 = (nm : Int) := by rw [← hnm]; rfl
  have hb9 : (b0 : Int) < 256 := by omega
  have HW := Lib.hid hW
  clear hx0 hb0 hl hp hW ham hnm
  go_enter Tryz.func34, Tryz.ntmps34
  go_upto_region 1 with (fail)
  rw [← HW.out]
  have CC0 := Lib.hid (Chg.of_below (B := fun b => b = p) D.out)
  go_upto_region 2 with (go_at_call 35; go_loud (have hn := next_at p v l 0 0 1 1 x0 w0 rfl R0.out (by decide) (by decide) (by rw [HL.out]; decide) H0.out; rw [HU.out] at hn; refine hn.mono ?_; rintro r w1 ⟨rfl, ⟨v1, hr⟩, hc⟩; have R1 := Lib.hid hr; have C1 := Lib.hid (CC0.out.trans hc); have X1 := Lib.hid (hc.blk X0.out NP.out); clear hr hc))
  go_upto_region 3 with (go_at_call 36; go_loud (refine (skip_at p v1 l 1 1 7 7 w1 rfl R1.out (by rw [HL.out]; decide)).mono ?_; rintro r w2 ⟨rfl, ⟨v2, hr⟩, hc⟩; have R2 := Lib.hid hr; have C2 := Lib.hid (C1.out.trans hc); have X2 := Lib.hid (hc.blk X1.out NP.out); clear hr hc))
  go_upto_region 4 with (fail)
  obtain ⟨w3, hw3⟩ : ∃ x, x = w2.alloc (.cells #[.int .i64 (am : Int), .int .i64 (nm : Int), .string ⟨#[]⟩, .string ⟨#[]⟩, .string ⟨#[]⟩, .string ⟨#[]⟩, .string ⟨#[]⟩, .string ⟨#[]⟩, .string ⟨#[]⟩] 24) := ⟨_, rfl⟩
  have gA := gr_alloc w2 (.cells #[.int .i64 (am : Int), .int .i64 (nm : Int), .string ⟨#[]⟩, .string ⟨#[]⟩, .string ⟨#[]⟩, .string ⟨#[]⟩, .string ⟨#[]⟩, .string ⟨#[]⟩, .string ⟨#[]⟩] 24)
  rw [← hw3] at gA
  have Y3 := Lib.hid (show w3.heap[w2.heap.size]? = some (.cells (A 0) 24 (0, 0)) by rw [hw3, A0.out]; exact heap_alloc_new w2 _)
  have R3 := Lib.hid (R2.out.below gA)
  have C3 := Lib.hid (C2.out.trans (Chg.of_below gA))
  have X3 := Lib.hid (blk_below X2.out gA)
  rw [← hw3]
  obtain ⟨Y, hY⟩ : ∃ Y, w2.heap.size = Y := ⟨_, rfl⟩
  have NE := Lib.hid (show ¬ Y = p ∧ ¬ w.heap.size = Y ∧ w.heap.size ≤ Y ∧ p < Y by
    have h1 := PLT.out; have h2 := C2.out.size; have h3 := (Array.getElem?_eq_some_iff.1 X2.out).1; omega)
  rw [hY] at Y3 ⊢
  clear hY CC0 gA hw3 hrem hquo hrem2 hquo2
  go_upto_region 5 with (fail)
  go_loopw [18] (fun i wr => ∃ k : Nat, k ≤ 7 ∧ i = .int .i64 k ∧ (∃ vk, RdAt wr 165 p d vk (l.drop (8 + 8 * k)) (8 + 8 * k)) ∧ Chg (fun b => b = p) w wr ∧ wr.heap[w.heap.size]? = some (.cells #[.int .i64 0, .int .i64 0, .string ⟨#[]⟩, .string ⟨#[]⟩, .string ⟨#[]⟩, .string ⟨#[]⟩, .string ⟨#[]⟩, .string ⟨#[]⟩, .string ⟨#[]⟩] 24 (0, 0)) ∧ wr.heap[Y]? = some (.cells (A k) 24 (0, 0))) (fun i _ => 7 - (intOf i).toNat)
  case atStart => exact ⟨0, by omega, rfl, ⟨_, R3.out⟩, C3.out, X3.out, Y3.out⟩
  case round =>
    obtain ⟨k, hk, rfl, ⟨va, hr⟩, hb, hx, hy⟩ := hrel
    have Ra := Lib.hid hr; have Ca := Lib.hid hb; have Xa := Lib.hid hx; have Ya := Lib.hid hy; clear hr hb hx hy
    by_cases hlt : k < 7
    · obtain ⟨s, hs⟩ : ∃ s, Wire.text (chk l k) = s := ⟨_, rfl⟩
      have HS := Lib.hid hs
      have SS := Lib.hid (AS.out k s hlt hs)
      have TL := Lib.hid (show ((l.drop (8 + 8 * k)).take 8).length = 8 by rw [List.length_take, List.length_drop, HL.out]; omega)
      clear hs
      have hk0 : (0 : Int) ≤ (k : Int) := by omega
      have hk1 : (k : Int) < 7 := by omega
      go_wp2_with (first
        | (go_at_call 37; go_loud (refine (Take_ok _ p va (l.drop (8 + 8 * k)) _ 8 wr Ra.out (by rw [List.length_drop, HL.out]; omega) (by rw [List.length_drop, HL.out]; omega)).mono ?_; rintro r wb ⟨ub, rfl, ho, ⟨vb, hr⟩, hc⟩; have Ub := Lib.hid (show BytesV wb ub (chk l k) from BytesV.of_own (l := (l.drop (8 + 8 * k)).take 8) (by rw [TL.out]; exact ho)); have Rb := Lib.hid hr; have Cb := Lib.hid (Ca.out.trans hc); have Xb := Lib.hid (hc.blk Xa.out NP.out); have Yb := Lib.hid (hc.blk Ya.out NE.out.1); have yb : wb.cell? ⟨Y, 2 + k, none⟩ = some (.string (strOf [])) := (cell_of_row _ _ _ _ _ _ Yb.out).trans (AG.out k hlt); have fb := frozen_of_row _ _ (2 + k) _ _ Yb.out; clear ho hr hc))
        | (go_at_call 38; go_loud (refine (Text_at ub (chk l k) s _ wb Ub.out (by have := TL.out; unfold chk cut; omega) rfl HS.out).mono ?_; rintro r wz ⟨rfl, rfl⟩)))
      obtain ⟨wc, hwc⟩ : ∃ wc, wc = wb.setCell ⟨Y, 2 + k, none⟩ (.string (strOf s)) := ⟨_, rfl⟩
      have cc : Chg (fun b => b = Y) wb wc := by rw [hwc]; exact Chg.setCell (B := fun b => b = Y) (p := ⟨Y, 2 + k, none⟩) _ rfl _
      have Yc := Lib.hid (show wc.heap[Y]? = some (.cells (A (k + 1)) 24 (0, 0)) by rw [hwc, ← SS.out]; exact heap_setCell_same _ _ _ _ _ _ Yb.out)
      have Xc := Lib.hid (cc.blk Xb.out NE.out.2.1)
      have Cc := Lib.hid (chg_newer Cb.out cc (fun g hg => by subst hg; exact NE.out.2.2.1))
      have Rc := Lib.hid (rd_chgS Rb.out cc NE.out.2.2.2)
      rw [← hwc]
      clear hwc cc yb fb
      go_roundw
      case rel => exact ⟨k + 1, by omega, by go_num, ⟨_, by have h := Rc.out; rwa [List.drop_drop, show 8 + 8 * k + 8 = 8 + 8 * (k + 1) by omega] at h⟩, Cc.out, Xc.out, Yc.out⟩
      case measure => simp [intOf]; omega
    · obtain rfl : k = 7 := by omega
      go_wp2_with (first
        | (refine wpList_load_row rfl 24 (.tmp 4) rfl Y rfl 24 (A 7) (0, 0) _ Ya.out Tryz.underlying24 rfl (by rw [AZ.out]; kernel_rfl) ?_)
        | (refine wpList_store_row rfl 24 (.tmp 2) (.tmp 35) rfl w.heap.size (A 7) rfl rfl 24 _ Xa.out (by rw [AZ.out]; kernel_rfl) (by rw [AZ.out]; rfl) AO.out ?_))
      exact bodyPost_ret (results_cell_row rfl _ _ w.heap.size 24 _ (0, 0) _ rfl (setRow_heap _ _ _ _ _ _ Xa.out) Tryz.underlying24 rfl (by rw [AZ.out]; kernel_rfl)) rfl ⟨rfl, chg_newer Ca.out (Chg.setRow (B := fun b => b = w.heap.size) wr rfl _) (fun g hg => by subst hg; exact Nat.le_refl _)⟩
set_option maxHeartbeats 3200000 in
set_option maxRecDepth 20000 in
theorem decoded_Slt (l : List (BitVec 8)) (bv : Value) (w : World) (y : Slt) (e : Int) (hb : BytesV w bv l) (hl : l.length ≤ 140737488355328) (ht : Lib.TabIs Tryz.prog w "strings.asciiSpace" .u8 Lib.asciiSpaceTab) (hd : decP 512 sltRd sltOkB sltZ l = (y, e)) :
    Calls Tryz.prog 33 #[bv, .int .i64 512, .func (.func 34) #[] #[], .func (.func 6) #[] #[]] w fun r w' => r = .returned (.tuple #[.agg (Slt.cells y).toArray, .int .i64 e]) ∧ Below w.heap.size w w' := by
  obtain ⟨av, cv, rfl, hv0, hv1, hv2, hv3⟩ := id hb
  have hm : l.length ≤ 9223372036854775807 := by omega
  have BV := Lib.hid hb
  have HTAB := Lib.hid ht
  have HLL := Lib.hid hl
  obtain ⟨V, hV⟩ : ∃ V, V = w.alloc (.cells #[.int .i64 0, .int .i64 0, .string ⟨#[]⟩, .string ⟨#[]⟩, .string ⟨#[]⟩, .string ⟨#[]⟩, .string ⟨#[]⟩, .string ⟨#[]⟩, .string ⟨#[]⟩] 24) := ⟨_, rfl⟩
  have DV := Lib.hid (show Below w.heap.size w V by rw [hV]; exact gr_alloc w _)
  have XV := Lib.hid (show V.heap[w.heap.size]? = some (.cells #[.int .i64 0, .int .i64 0, .string ⟨#[]⟩, .string ⟨#[]⟩, .string ⟨#[]⟩, .string ⟨#[]⟩, .string ⟨#[]⟩, .string ⟨#[]⟩, .string ⟨#[]⟩] 24 (0, 0)) by rw [hV]; exact heap_alloc_new w _)
  have VS := Lib.hid (show w.heap.size < V.heap.size by rw [hV]; simp)
  have HV := Lib.hid hV
  have ZS := Lib.hid (show (Slt.cells sltZ).toArray = #[.int .i64 0, .int .i64 0, .string ⟨#[]⟩, .string ⟨#[]⟩, .string ⟨#[]⟩, .string ⟨#[]⟩, .string ⟨#[]⟩, .string ⟨#[]⟩, .string ⟨#[]⟩] from rfl)
  clear hb hv0 hv1 hv2 hv3 hV hl
  unfold decP at hd
  by_cases p1 : l.length < 512
  · rw [if_pos p1] at hd
    cases hd
    rw [ZS.out]
    have d1 : decide ((l.length : Int) < 512) = true := decide_eq_true (by omega)
    have d1b : decide (l.length < 512) = true := decide_eq_true (by omega)
    clear p1
    go_enter Tryz.func33, Tryz.ntmps33
    go_upto_region 1 with (fail)
    rw [← HV.out]
    go_wp2_with (first
      | (refine wpList_load_row rfl 24 (.tmp 8) rfl w.heap.size rfl 24 #[.int .i64 0, .int .i64 0, .string ⟨#[]⟩, .string ⟨#[]⟩, .string ⟨#[]⟩, .string ⟨#[]⟩, .string ⟨#[]⟩, .string ⟨#[]⟩, .string ⟨#[]⟩] (0, 0) _ XV.out Tryz.underlying24 rfl (by kernel_rfl) ?_)
      | (refine wpList_store_row rfl 24 (.tmp 8) (.tmp 18) rfl w.heap.size #[.int .i64 0, .int .i64 0, .string ⟨#[]⟩, .string ⟨#[]⟩, .string ⟨#[]⟩, .string ⟨#[]⟩, .string ⟨#[]⟩, .string ⟨#[]⟩, .string ⟨#[]⟩] rfl rfl 24 _ XV.out (by kernel_rfl) rfl (by simp [Value.oneCell']) ?_))
    exact bodyPost_ret (results_row_tmp rfl _ _ w.heap.size 24 #[.int .i64 0, .int .i64 0, .string ⟨#[]⟩, .string ⟨#[]⟩, .string ⟨#[]⟩, .string ⟨#[]⟩, .string ⟨#[]⟩, .string ⟨#[]⟩, .string ⟨#[]⟩] (0, 0) _ rfl (setRow_heap _ _ _ _ _ _ XV.out) Tryz.underlying24 rfl (by kernel_rfl)) rfl ⟨rfl, below_setRow DV.out (Nat.le_refl _) _⟩
  rw [if_neg p1] at hd
  have d1 : decide ((l.length : Int) < 512) = false := decide_eq_false (by omega)
  have d1b : decide (l.length < 512) = false := decide_eq_false (by omega)
  by_cases p2 : 512 < l.length
  · rw [if_pos p2] at hd
    cases hd
    rw [ZS.out]
    have d2 : decide (512 < (l.length : Int)) = true := decide_eq_true (by omega)
    have d2b : decide (512 < l.length) = true := decide_eq_true (by omega)
    clear p1 p2
    go_enter Tryz.func33, Tryz.ntmps33
    go_upto_region 1 with (fail)
    rw [← HV.out]
    go_wp2_with (first
      | (refine wpList_load_row rfl 24 (.tmp 8) rfl w.heap.size rfl 24 #[.int .i64 0, .int .i64 0, .string ⟨#[]⟩, .string ⟨#[]⟩, .string ⟨#[]⟩, .string ⟨#[]⟩, .string ⟨#[]⟩, .string ⟨#[]⟩, .string ⟨#[]⟩] (0, 0) _ XV.out Tryz.underlying24 rfl (by kernel_rfl) ?_)
      | (refine wpList_store_row rfl 24 (.tmp 8) (.tmp 24) rfl w.heap.size #[.int .i64 0, .int .i64 0, .string ⟨#[]⟩, .string ⟨#[]⟩, .string ⟨#[]⟩, .string ⟨#[]⟩, .string ⟨#[]⟩, .string ⟨#[]⟩, .string ⟨#[]⟩] rfl rfl 24 _ XV.out (by kernel_rfl) rfl (by simp [Value.oneCell']) ?_))
    exact bodyPost_ret (results_row_tmp rfl _ _ w.heap.size 24 #[.int .i64 0, .int .i64 0, .string ⟨#[]⟩, .string ⟨#[]⟩, .string ⟨#[]⟩, .string ⟨#[]⟩, .string ⟨#[]⟩, .string ⟨#[]⟩, .string ⟨#[]⟩] (0, 0) _ rfl (setRow_heap _ _ _ _ _ _ XV.out) Tryz.underlying24 rfl (by kernel_rfl)) rfl ⟨rfl, below_setRow DV.out (Nat.le_refl _) _⟩
  rw [if_neg p2] at hd
  have d2 : decide (512 < (l.length : Int)) = false := decide_eq_false (by omega)
  have d2b : decide (512 < l.length) = false := decide_eq_false (by omega)
  have HL := Lib.hid (show l.length = 512 by omega)
  have HD := Lib.hid hd
  clear p1 p2 hd
  obtain ⟨x, hx⟩ : ∃ x, sltRd l = x := ⟨_, rfl⟩
  have HX := Lib.hid hx
  obtain ⟨cx, hcx⟩ : ∃ c, (Slt.cells x).toArray = c := ⟨_, rfl⟩
  have HCX := Lib.hid hcx
  have SZX := Lib.hid (show cx.size = 9 by rw [← hcx]; exact slt_size x (by rw [← hx]; exact sltRd_len l))
  have ONX := Lib.hid (show cx.all (·.oneCell') = true by rw [← hcx]; exact slt_one x)
  clear hx hcx
  obtain ⟨bo, hbo⟩ : ∃ b, sltOk x = b := ⟨_, rfl⟩
  have HO := Lib.hid hbo; clear hbo
  go_enter Tryz.func33, Tryz.ntmps33
  go_upto_region 1 with (fail)
  rw [← HV.out]
  go_upto_region 6 with (first
    | (go_at_call 70; go_loud (refine (NewReader_any _ l _ (BV.out.below DV.out) HLL.out).mono ?_; rintro r w1 ⟨p, v, rfl, hp, hr, hw⟩; have HP := Lib.hid hp; have R := Lib.hid hr; have D1 := Lib.hid (gr_tr DV.out hw); have DW := Lib.hid hw; clear hp hr hw))
    | (go_at_call 34; go_loud (refine (readSl_at p v l _ R.out HL.out).mono ?_; rw [HX.out, HCX.out]; rintro r w2 ⟨rfl, hc⟩; have D2 := Lib.hid (hc.fresh D1.out (fun k hk => by have h1 := HP.out; have h2 := VS.out; subst hk; omega)); have X2 := Lib.hid (hc.blk (blk_below XV.out DW.out) (fun hk => by have h1 := HP.out; have h2 := VS.out; subst hk; omega)); clear hc))
    | (refine wpList_store_new rfl 24 (.tmp 10) (.tmp 28) rfl cx 24 _ rfl rfl (by rw [SZX.out]; kernel_rfl) (by rw [SZX.out]; rfl) ONX.out ?_; intro w3 hh hw; have Y3 := Lib.hid hh; have D3 := Lib.hid (gr_tr D2.out hw); have X3 := Lib.hid (blk_below X2.out hw); clear hh hw))
  clear d1 d1b d2 d2b
  have B3 := Lib.hid (BV.out.below D3.out)
  cases bo
  · have ENC := fun w ht => EncS_at x 2 [] w (by rw [← HX.out]; exact sltRd_len l) (by rw [← HX.out]; exact rd_short l HL.out) ht (by unfold sltE; rw [HO.out]; rfl) (by unfold sltR; rw [HO.out]; rfl)
    rw [HCX.out] at ENC
    go_wp2_with (first
      | (refine wpList_load_row rfl 24 (.tmp 10) rfl w2.heap.size rfl 24 cx (0, 0) _ Y3.out Tryz.underlying24 rfl (by rw [SZX.out]; kernel_rfl) ?_)
      | (go_at_call 6; go_loud (refine (ENC _ (tab_below HTAB.out D3.out)).mono ?_; rintro r w4 ⟨u, rfl, hu, hw⟩; have D4 := Lib.hid (gr_tr D3.out hw); have X4 := Lib.hid (blk_below X3.out hw); clear hu hw))
      | (refine wpList_load_row rfl 24 (.tmp 8) rfl w.heap.size rfl 24 #[.int .i64 0, .int .i64 0, .string ⟨#[]⟩, .string ⟨#[]⟩, .string ⟨#[]⟩, .string ⟨#[]⟩, .string ⟨#[]⟩, .string ⟨#[]⟩, .string ⟨#[]⟩] (0, 0) _ X4.out Tryz.underlying24 rfl (by kernel_rfl) ?_)
      | (refine wpList_store_row rfl 24 (.tmp 8) (.tmp 43) rfl w.heap.size #[.int .i64 0, .int .i64 0, .string ⟨#[]⟩, .string ⟨#[]⟩, .string ⟨#[]⟩, .string ⟨#[]⟩, .string ⟨#[]⟩, .string ⟨#[]⟩, .string ⟨#[]⟩] rfl rfl 24 _ X4.out (by kernel_rfl) rfl (by simp [Value.oneCell']) ?_))
    obtain ⟨e1, e2⟩ : y = sltZ ∧ e = 6 := by
      have h := HD.out
      unfold sltOkB at h
      rw [HX.out, HO.out] at h
      simp at h
      exact ⟨h.1.symm, h.2.symm⟩
    rw [e1, e2, ZS.out]
    exact bodyPost_ret (results_row_tmp rfl _ _ w.heap.size 24 #[.int .i64 0, .int .i64 0, .string ⟨#[]⟩, .string ⟨#[]⟩, .string ⟨#[]⟩, .string ⟨#[]⟩, .string ⟨#[]⟩, .string ⟨#[]⟩, .string ⟨#[]⟩] (0, 0) _ rfl (setRow_heap _ _ _ _ _ _ X4.out) Tryz.underlying24 rfl (by kernel_rfl)) rfl ⟨rfl, below_setRow D4.out (Nat.le_refl _) _⟩
  have ENC := fun w ht => EncS_at x 0 (sltB x) w (by rw [← HX.out]; exact sltRd_len l) (by rw [← HX.out]; exact rd_short l HL.out) ht (by unfold sltE; rw [HO.out]; rfl) (by unfold sltR; rw [HO.out]; rfl)
  rw [HCX.out] at ENC
  obtain ⟨bq, hbq⟩ : ∃ b, (sltB x == l) = b := ⟨_, rfl⟩
  have HQ := Lib.hid hbq; clear hbq
  obtain ⟨NB, hNB⟩ : ∃ B, sltB x = B := ⟨_, rfl⟩
  rw [hNB] at ENC
  have HNB := Lib.hid hNB
  clear hNB
  cases bq
  · have HQN := Lib.hid (show (NB == l) = false by rw [← HNB.out]; exact HQ.out)
    go_wp2_with (first
      | (refine wpList_load_row rfl 24 (.tmp 10) rfl w2.heap.size rfl 24 cx (0, 0) _ Y3.out Tryz.underlying24 rfl (by rw [SZX.out]; kernel_rfl) ?_)
      | (go_at_call 6; go_loud (refine (ENC _ (tab_below HTAB.out D3.out)).mono ?_; rintro r w4 ⟨u, rfl, hu, hw⟩; have U := Lib.hid (hu); have B4 := Lib.hid (B3.out.below hw); have D4 := Lib.hid (gr_tr D3.out hw); have X4 := Lib.hid (blk_below X3.out hw); clear hu hw))
      | (go_at_call 71; go_loud (refine (eqB_at _ _ _ _ _ _ U.out B4.out HQN.out).mono ?_; rintro r w5 ⟨rfl, rfl⟩))
      | (refine wpList_load_row rfl 24 (.tmp 8) rfl w.heap.size rfl 24 #[.int .i64 0, .int .i64 0, .string ⟨#[]⟩, .string ⟨#[]⟩, .string ⟨#[]⟩, .string ⟨#[]⟩, .string ⟨#[]⟩, .string ⟨#[]⟩, .string ⟨#[]⟩] (0, 0) _ X4.out Tryz.underlying24 rfl (by kernel_rfl) ?_)
      | (refine wpList_store_row rfl 24 (.tmp 8) (.tmp 43) rfl w.heap.size #[.int .i64 0, .int .i64 0, .string ⟨#[]⟩, .string ⟨#[]⟩, .string ⟨#[]⟩, .string ⟨#[]⟩, .string ⟨#[]⟩, .string ⟨#[]⟩, .string ⟨#[]⟩] rfl rfl 24 _ X4.out (by kernel_rfl) rfl (by simp [Value.oneCell']) ?_))
    obtain ⟨e1, e2⟩ : y = sltZ ∧ e = 6 := by
      have h := HD.out
      unfold sltOkB at h
      rw [HX.out, HO.out, HQ.out] at h
      simp at h
      exact ⟨h.1.symm, h.2.symm⟩
    rw [e1, e2, ZS.out]
    exact bodyPost_ret (results_row_tmp rfl _ _ w.heap.size 24 #[.int .i64 0, .int .i64 0, .string ⟨#[]⟩, .string ⟨#[]⟩, .string ⟨#[]⟩, .string ⟨#[]⟩, .string ⟨#[]⟩, .string ⟨#[]⟩, .string ⟨#[]⟩] (0, 0) _ rfl (setRow_heap _ _ _ _ _ _ X4.out) Tryz.underlying24 rfl (by kernel_rfl)) rfl ⟨rfl, below_setRow D4.out (Nat.le_refl _) _⟩
  · have HQN := Lib.hid (show (NB == l) = true by rw [← HNB.out]; exact HQ.out)
    go_wp2_with (first
      | (refine wpList_load_row rfl 24 (.tmp 10) rfl w2.heap.size rfl 24 cx (0, 0) _ Y3.out Tryz.underlying24 rfl (by rw [SZX.out]; kernel_rfl) ?_)
      | (go_at_call 6; go_loud (refine (ENC _ (tab_below HTAB.out D3.out)).mono ?_; rintro r w4 ⟨u, rfl, hu, hw⟩; have U := Lib.hid (hu); have B4 := Lib.hid (B3.out.below hw); have D4 := Lib.hid (gr_tr D3.out hw); have X4 := Lib.hid (blk_below X3.out hw); have Y4 := Lib.hid (blk_below Y3.out hw); clear hu hw))
      | (go_at_call 71; go_loud (refine (eqB_at _ _ _ _ _ _ U.out B4.out HQN.out).mono ?_; rintro r w5 ⟨rfl, rfl⟩))
      | (refine wpList_load_row rfl 24 (.tmp 10) rfl w2.heap.size rfl 24 cx (0, 0) _ Y4.out Tryz.underlying24 rfl (by rw [SZX.out]; kernel_rfl) ?_)
      | (refine wpList_store_row rfl 24 (.tmp 8) (.tmp 44) rfl w.heap.size cx rfl rfl 24 _ X4.out (by rw [SZX.out]; kernel_rfl) (by rw [SZX.out]; rfl) ONX.out ?_))
    obtain ⟨e1, e2⟩ : y = x ∧ e = 0 := by
      have h := HD.out
      unfold sltOkB at h
      rw [HX.out, HO.out, HQ.out] at h
      simp at h
      exact ⟨h.1.symm, h.2.symm⟩
    rw [e1, e2, HCX.out]
    exact bodyPost_ret (results_row_tmp rfl _ _ w.heap.size 24 cx (0, 0) _ rfl (setRow_heap _ _ _ _ _ _ X4.out) Tryz.underlying24 rfl (by rw [SZX.out]; kernel_rfl)) rfl ⟨rfl, below_setRow D4.out (Nat.le_refl _) _⟩
set_option maxHeartbeats 1600000 in
set_option maxRecDepth 20000 in
theorem Decode_Slt (l : List (BitVec 8)) (bv : Value) (w : World) (y : Slt) (e : Int) (hb : BytesV w bv l) (hl : l.length ≤ 140737488355328) (ht : Lib.TabIs Tryz.prog w "strings.asciiSpace" .u8 Lib.asciiSpaceTab) (hd : decP 512 sltRd sltOkB sltZ l = (y, e)) :
    Calls Tryz.prog 8 #[bv] w fun r w' => r = .returned (.tuple #[.agg (Slt.cells y).toArray, .int .i64 e]) ∧ Below w.heap.size w w' := by
  have HTAB := Lib.hid ht
  have BV := Lib.hid hb; have HL := Lib.hid hl; have HD := Lib.hid hd
  obtain ⟨V, hV⟩ : ∃ V, V = w.alloc (.cells #[.int .i64 0, .int .i64 0, .string ⟨#[]⟩, .string ⟨#[]⟩, .string ⟨#[]⟩, .string ⟨#[]⟩, .string ⟨#[]⟩, .string ⟨#[]⟩, .string ⟨#[]⟩] 24) := ⟨_, rfl⟩
  have DV := Lib.hid (show Below w.heap.size w V by rw [hV]; exact gr_alloc w _)
  have XV := Lib.hid (show V.heap[w.heap.size]? = some (.cells #[.int .i64 0, .int .i64 0, .string ⟨#[]⟩, .string ⟨#[]⟩, .string ⟨#[]⟩, .string ⟨#[]⟩, .string ⟨#[]⟩, .string ⟨#[]⟩, .string ⟨#[]⟩] 24 (0, 0)) by rw [hV]; exact heap_alloc_new w _)
  have HV := Lib.hid hV
  obtain ⟨cy, hcy⟩ : ∃ c, (Slt.cells y).toArray = c := ⟨_, rfl⟩
  have HCY := Lib.hid hcy
  have SZY := Lib.hid (show cy.size = 9 by rw [← hcy]; exact slt_size y (slt_dec_len hd))
  have ONY := Lib.hid (show cy.all (·.oneCell') = true by rw [← hcy]; exact slt_one y)
  rw [hcy]
  clear hb hl hd hV hcy
  go_enter Tryz.func8, Tryz.ntmps8
  go_upto_region 1 with (fail)
  rw [← HV.out]
  go_wp2_with (first
    | (go_at_call 33; go_loud (refine (decoded_Slt l _ _ y e (BV.out.below DV.out) HL.out (tab_below HTAB.out DV.out) HD.out).mono ?_; rw [HCY.out]; rintro r w3 ⟨rfl, hw⟩; have D3 := Lib.hid (gr_tr DV.out hw); have X3 := Lib.hid (blk_below XV.out hw); clear hw))
    | (refine wpList_store_row rfl 24 (.tmp 2) (.tmp 6) rfl w.heap.size cy rfl rfl 24 _ X3.out (by rw [SZY.out]; kernel_rfl) (by rw [SZY.out]; rfl) ONY.out ?_))
  exact bodyPost_ret (results_row_tmp rfl _ _ w.heap.size 24 cy (0, 0) _ rfl (setRow_heap _ _ _ _ _ _ X3.out) Tryz.underlying24 rfl (by rw [SZY.out]; kernel_rfl)) rfl ⟨rfl, below_setRow D3.out (Nat.le_refl _) _⟩
end Go.Proofs.YthnnopjakpjoeaaGreatDoor
namespace Go.Proofs.YthnnopjakpjoeaaGreatDoor
open Go.RowKit Lg
set_option linter.unusedVariables false
set_option linter.unusedSimpArgs false
theorem hl_cells (x : Hl) : Hl.cells x = [.int .u8 (uv x.warning), .int .u16 (uv x.temperature), .int .u8 (uv x.spare), .int .u8 (uv x.threshold), .int .u8 (uv x.used)] ++ wd x.counters := by
  unfold Hl.cells wd
  rw [flat1, List.append_nil]; rfl
set_option maxRecDepth 100000 in
theorem wpList_index_u64 {ops : Array Oper} {rest : List Oper} {op : Oper} {a : Act} {w : World} {Q : Exit → Act → World → Prop} (hgd : op.guard = none) (x i : Operand) (ho : op.op = .index 45 x i) (cs : List (BitVec 64)) (hr : cs.length = 10)
    (hx : a.eval x = .agg (wd cs).toArray) (k : Nat) (hi : a.eval i = .int .i64 (k : Int)) (c : BitVec 64) (hs : cs[k]? = some c)
    (h : wpList Tryz.prog ops Q rest (a.put op.dst (.int .u64 (uv c))) w) : wpList Tryz.prog ops Q (op :: rest) a w := by
  refine wpList_plain hgd fun _ hK => ?_
  have hrun : (Instr.index 45 (.agg (wd cs).toArray) (.int .i64 (k : Int))).run Tryz.prog w = .ok (.int .u64 (uv c)) w := by
    obtain ⟨hk, he⟩ := List.getElem?_eq_some_iff.1 hs
    match cs, hr with
    | [s0, s1, s2, s3, s4, s5, s6, s7, s8, s9], _ =>
      have hk7 : k = 0 ∨ k = 1 ∨ k = 2 ∨ k = 3 ∨ k = 4 ∨ k = 5 ∨ k = 6 ∨ k = 7 ∨ k = 8 ∨ k = 9 := by simp at hk; omega
      rcases hk7 with rfl | rfl | rfl | rfl | rfl | rfl | rfl | rfl | rfl | rfl <;> (subst he; rfl)
  unfold Oper.wp execOp
  simp only [ho, hx, hi, Sem.run_bind, Sem.run_pure, Result.andThen_ok, hrun]
  exact hK _ _ h
theorem hlTl_n (cs : List (BitVec 64)) : (hlTl cs).length = 2 * cs.length := by
  induction cs with
  | nil => rfl
  | cons c cs ih =>
    have e : hlTl (c :: cs) = [(c, 8), (0#64, 8)] ++ hlTl cs := by unfold hlTl; rw [List.flatMap_cons]
    rw [e, List.length_append, ih, List.length_cons]
    simp only [List.length_cons, List.length_nil]
    omega
theorem hlFl_n (x : Hl) (h : x.counters.length = 10) : (hlFl x).length = 29 := by
  unfold hlFl
  rw [List.length_append, hlTl_n, h]; rfl
/-- 'append(own, f, g)' at fields. -/
theorem app_fields2 {ops : Array Oper} {rest : List Oper} {o : Oper} {a : Act} {Q : Exit → Act → World → Prop} {W : World} (hgd : o.guard = none) (s x : Operand) (ho : o.op = .call { callee := .builtin .append, args := #[s, x], argTypes := #[103, 103] })
    (u : Value) (base n : Nat) (fl : List WF) (hs : a.eval s = u) (hown : W.ownsRow base 81 2 u n (fCells fl)) (hbase : base ≤ W.heap.size) (f g : WF) (ty : TypeId) (hx : a.eval x = .slice (some ⟨W.heap.size, 0, none⟩) 2 2) (hl : n ≤ 100000)
    (h : ∀ v' w', w'.ownsRow base 81 2 v' (n + 2) (fCells (fl ++ [f, g])) → Below base W w' → wpList Tryz.prog ops Q rest (a.put o.dst v') w') : wpList Tryz.prog ops Q (o :: rest) a (W.alloc (.cells #[.int .u64 (uv f.1), .int .i64 f.2, .int .u64 (uv g.1), .int .i64 g.2] ty)) := by
  have hb := gr_alloc W (.cells #[.int .u64 (uv f.1), .int .i64 f.2, .int .u64 (uv g.1), .int .i64 g.2] ty)
  refine app_law_at fieldsOk hgd s x ho base u n (fCells fl) hs (own_below hown hb) (some ⟨W.heap.size, 0, none⟩) 2 2 (fCells [f, g]) hx some_none (Nat.le_refl _) (Row.lit W #[.int .u64 (uv f.1), .int .i64 f.2, .int .u64 (uv g.1), .int .i64 g.2] ty (0, 0)) rfl (by intro u hu; simp [fCells] at hu; rcases hu with rfl | rfl | rfl | rfl <;> rfl) (by omega) (by omega) (Nat.le_trans hbase hb.size) ?_
  intro v' w' h1 h2 h3
  rw [← fCells_app] at h1
  exact h v' w' h1 ((hb.mono hbase).grown h2 (Nat.le_trans hbase hb.size) (fun k hk => (hown.lt k hk).1))
set_option maxHeartbeats 3200000 in
set_option maxRecDepth 20000 in
theorem EncHl_at (x : Hl) (B : List (BitVec 8)) (w : World) (hx : x.counters.length = 10) (hB : hlB x = B) :
    Calls Tryz.prog 14 #[.agg (Hl.cells x).toArray] w fun r w' => ∃ u, r = .returned u ∧ w'.ownsRow w.heap.size 5 1 u B.length (by8 B) ∧ Below w.heap.size w w' := by
  have HB := Lib.hid (show pageB 512 (hlFl x) = B from hB)
  have HX := Lib.hid hx
  obtain ⟨cx, hcx⟩ : ∃ c, (Hl.cells x).toArray = c := ⟨_, rfl⟩
  rw [hcx]
  obtain ⟨W, hW⟩ : ∃ W, W = w.alloc (.cells cx 47) := ⟨_, rfl⟩
  have D := Lib.hid (show Below w.heap.size w W by rw [hW]; exact gr_alloc w _)
  have X := Lib.hid (show W.heap[w.heap.size]? = some (.cells cx 47 (0, 0)) by rw [hW]; exact heap_alloc_new w _)
  have hce : ∀ (i : Nat) (v : Value), (Hl.cells x)[i]? = some v → cx[i]? = some v := fun i v h => by rw [← hcx, List.getElem?_toArray]; exact h
  have hcl := hl_cells x
  have q0 : ∀ y : KeepT nowhere W, y.val.cell? ⟨w.heap.size, 0, none⟩ = some (.int .u8 (uv x.warning)) := fun y => y.cell ((cell_of_row _ _ 0 _ _ _ X.out).trans (hce 0 _ (by rw [hcl]; rfl))) id
  have q1 : ∀ y : KeepT nowhere W, y.val.cell? ⟨w.heap.size, 1, none⟩ = some (.int .u16 (uv x.temperature)) := fun y => y.cell ((cell_of_row _ _ 1 _ _ _ X.out).trans (hce 1 _ (by rw [hcl]; rfl))) id
  have q2 : ∀ y : KeepT nowhere W, y.val.cell? ⟨w.heap.size, 2, none⟩ = some (.int .u8 (uv x.spare)) := fun y => y.cell ((cell_of_row _ _ 2 _ _ _ X.out).trans (hce 2 _ (by rw [hcl]; rfl))) id
  have q3 : ∀ y : KeepT nowhere W, y.val.cell? ⟨w.heap.size, 3, none⟩ = some (.int .u8 (uv x.threshold)) := fun y => y.cell ((cell_of_row _ _ 3 _ _ _ X.out).trans (hce 3 _ (by rw [hcl]; rfl))) id
  have q4 : ∀ y : KeepT nowhere W, y.val.cell? ⟨w.heap.size, 4, none⟩ = some (.int .u8 (uv x.used)) := fun y => y.cell ((cell_of_row _ _ 4 _ _ _ X.out).trans (hce 4 _ (by rw [hcl]; rfl))) id
  have RNG := Lib.hid (show ∀ V, Below W.heap.size W V → V.rangeAt w.heap.size 5 (wd x.counters) from fun V hV j v hj => by
    rw [cell_of_row _ _ (5 + j) _ _ _ (blk_below X.out hV)]
    refine hce _ _ ?_
    rw [hcl, List.getElem?_append_right (by simp)]
    simpa using hj)
  have HW := Lib.hid hW
  clear hW hcx hce hcl hx hB
  go_enter Tryz.func14, Tryz.ntmps14
  go_upto_region 1 with (fail)
  first
    | rw [← HW.out]
    | (show Code.wp _ _ _ _ (w.alloc (.cells cx 47)); rw [← HW.out])
  refine wp_region_planW nowhere [(true, 0), (true, 1), (true, 2), (true, 4), (true, 5), (true, 6), (true, 8), (true, 9), (true, 10), (true, 12), (true, 13), (true, 14), (true, 16), (true, 17), (true, 18), (false, 3), (false, 7), (false, 11), (false, 15), (false, 19), (false, 20), (false, 21), (false, 22), (false, 23), (false, 24), (true, 25)] (by kernel_rfl) (by kernel_rfl) (by intro c a d v w h; cases d <;> exact h) ?_
  intro W1 K1 C1
  repeat (refine wpS_firm rfl (fun K hK => ?_); simp only [Keep]; go_simp; refine hK _ ?_; clear hK K)
  refine wpS_chain rfl ?_
  go_wp2_with (go_at_call 29; go_loud (refine (f_any _ _ _).mono ?_; rintro r X2 ⟨rfl, hw⟩; have K2 := Lib.hid (K1.out.below hw); have C2 := Lib.hid (gr_tr C1.out hw); clear hw))
  refine ⟨K2.out, ?_⟩
  refine wpS_chain rfl ?_
  go_wp2_with (go_at_call 29; go_loud (refine (f_any _ _ _).mono ?_; rintro r X3 ⟨rfl, hw⟩; have K3 := Lib.hid (K2.out.below hw); have C3 := Lib.hid (gr_tr C2.out hw); clear hw))
  refine ⟨K3.out, ?_⟩
  refine wpS_chain rfl ?_
  go_wp2_with (go_at_call 29; go_loud (refine (f_any _ _ _).mono ?_; rintro r X4 ⟨rfl, hw⟩; have K4 := Lib.hid (K3.out.below hw); have C4 := Lib.hid (gr_tr C3.out hw); clear hw))
  refine ⟨K4.out, ?_⟩
  refine wpS_chain rfl ?_
  go_wp2_with (go_at_call 29; go_loud (refine (f_any _ _ _).mono ?_; rintro r X5 ⟨rfl, hw⟩; have K5 := Lib.hid (K4.out.below hw); have C5 := Lib.hid (gr_tr C4.out hw); clear hw))
  refine ⟨K5.out, ?_⟩
  refine wpS_chain rfl ?_
  go_wp2_with (go_at_call 29; go_loud (refine (f_any _ _ _).mono ?_; rintro r X6 ⟨rfl, hw⟩; have K6 := Lib.hid (K5.out.below hw); have C6 := Lib.hid (gr_tr C5.out hw); clear hw))
  refine ⟨K6.out, ?_⟩
  refine wpS_chain rfl ?_
  go_wp2_with (go_at_call 29; go_loud (refine (f_any _ _ _).mono ?_; rintro r X7 ⟨rfl, hw⟩; have K7 := Lib.hid (K6.out.below hw); have C7 := Lib.hid (gr_tr C6.out hw); clear hw))
  refine ⟨K7.out, ?_⟩
  refine wpS_chain rfl ?_
  go_wp2_with (go_at_call 29; go_loud (refine (f_any _ _ _).mono ?_; rintro r X8 ⟨rfl, hw⟩; have K8 := Lib.hid (K7.out.below hw); have C8 := Lib.hid (gr_tr C7.out hw); clear hw))
  refine ⟨K8.out, ?_⟩
  refine wpS_chain rfl ?_
  go_wp2_with (go_at_call 29; go_loud (refine (f_any _ _ _).mono ?_; rintro r X9 ⟨rfl, hw⟩; have K9 := Lib.hid (K8.out.below hw); have C9 := Lib.hid (gr_tr C8.out hw); clear hw))
  refine ⟨K9.out, ?_⟩
  refine wpS_chain rfl ?_
  go_wp2_with (go_at_call 29; go_loud (refine (f_any _ _ _).mono ?_; rintro r X10 ⟨rfl, hw⟩; have K10 := Lib.hid (K9.out.below hw); have C10 := Lib.hid (gr_tr C9.out hw); clear hw))
  refine ⟨K10.out, ?_⟩
  refine wpS_chain rfl ?_
  go_wp2
  refine ⟨K10.out.alloc _, ?_⟩
  repeat (refine wpS_firm rfl (fun K hK => ?_); simp only [Keep]; go_simp; refine hK _ ?_; clear hK K)
  unfold wpS
  have O := Lib.hid (show (X10.alloc (.cells #[.int .u64 (uv (x.warning.setWidth 64)), .int .i64 1, .int .u64 (uv (x.temperature.setWidth 64)), .int .i64 2, .int .u64 (uv (x.spare.setWidth 64)), .int .i64 1, .int .u64 (uv (x.threshold.setWidth 64)), .int .i64 1, .int .u64 (uv (x.used.setWidth 64)), .int .i64 1, .int .u64 0, .int .i64 8, .int .u64 0, .int .i64 8, .int .u64 0, .int .i64 8, .int .u64 0, .int .i64 2] 81)).ownsRow W.heap.size 81 2 (.slice (some ⟨X10.heap.size, 0, none⟩) 9 9) 9 (fCells (hlHd x ++ hlTl (x.counters.take 0))) by
    have h := World.ownsRow_lit (base := W.heap.size) (size := 2) (e := 81) X10 #[.int .u64 (uv (x.warning.setWidth 64)), .int .i64 1, .int .u64 (uv (x.temperature.setWidth 64)), .int .i64 2, .int .u64 (uv (x.spare.setWidth 64)), .int .i64 1, .int .u64 (uv (x.threshold.setWidth 64)), .int .i64 1, .int .u64 (uv (x.used.setWidth 64)), .int .i64 1, .int .u64 0, .int .i64 8, .int .u64 0, .int .i64 8, .int .u64 0, .int .i64 8, .int .u64 0, .int .i64 2] 9 (by have := C10.out.size; exact this) (by decide) rfl
    have e : (#[.int .u64 (uv (x.warning.setWidth 64)), .int .i64 1, .int .u64 (uv (x.temperature.setWidth 64)), .int .i64 2, .int .u64 (uv (x.spare.setWidth 64)), .int .i64 1, .int .u64 (uv (x.threshold.setWidth 64)), .int .i64 1, .int .u64 (uv (x.used.setWidth 64)), .int .i64 1, .int .u64 0, .int .i64 8, .int .u64 0, .int .i64 8, .int .u64 0, .int .i64 8, .int .u64 0, .int .i64 2] : Array Value).toList = fCells (hlHd x ++ hlTl (x.counters.take 0)) := by
      first | rfl | (simp [fCells, hlHd, hlTl]; done) | (simp [fCells, hlHd, hlTl]; rfl)
    rw [← e]; exact h)
  have C := Lib.hid (gr_tr C10.out (gr_alloc X10 (.cells #[.int .u64 (uv (x.warning.setWidth 64)), .int .i64 1, .int .u64 (uv (x.temperature.setWidth 64)), .int .i64 2, .int .u64 (uv (x.spare.setWidth 64)), .int .i64 1, .int .u64 (uv (x.threshold.setWidth 64)), .int .i64 1, .int .u64 (uv (x.used.setWidth 64)), .int .i64 1, .int .u64 0, .int .i64 8, .int .u64 0, .int .i64 8, .int .u64 0, .int .i64 8, .int .u64 0, .int .i64 2] 81)))
  obtain ⟨V, hV⟩ : ∃ V, X10.alloc (.cells #[.int .u64 (uv (x.warning.setWidth 64)), .int .i64 1, .int .u64 (uv (x.temperature.setWidth 64)), .int .i64 2, .int .u64 (uv (x.spare.setWidth 64)), .int .i64 1, .int .u64 (uv (x.threshold.setWidth 64)), .int .i64 1, .int .u64 (uv (x.used.setWidth 64)), .int .i64 1, .int .u64 0, .int .i64 8, .int .u64 0, .int .i64 8, .int .u64 0, .int .i64 8, .int .u64 0, .int .i64 2] 81) = V := ⟨_, rfl⟩
  rw [hV] at O C ⊢
  clear hV q0 q1 q2 q3 q4
  have RV := Lib.hid (RNG.out V C.out)
  go_upto_region 3 with (refine wpList_load_mid rfl 45 (.tmp 31) rfl w.heap.size 5 rfl (wd x.counters) _ RV.out Tryz.underlying45 rfl (by rw [show (wd x.counters).length = 10 by unfold wd; rw [List.length_map]; exact HX.out]; kernel_rfl) ?_)
  go_loopw [3, 33] (fun u i wr => ∃ k : Nat, k ≤ 10 ∧ i = .int .i64 k ∧ wr.ownsRow W.heap.size 81 2 u (9 + 2 * k) (fCells (hlHd x ++ hlTl (x.counters.take k))) ∧ Below W.heap.size W wr) (fun _ i _ => 10 - (intOf i).toNat)
  case atStart => exact ⟨0, by omega, rfl, O.out, C.out⟩
  case round =>
    obtain ⟨k, hk, rfl, ho, hb⟩ := hrel
    have O1 := Lib.hid ho; have D1 := Lib.hid hb; clear ho hb
    by_cases hlt : k < 10
    · obtain ⟨c, hc⟩ : ∃ c, x.counters[k]? = some c := ⟨_, List.getElem?_eq_getElem (by rw [HX.out]; exact hlt)⟩
      have HC := Lib.hid hc
      have HS := Lib.hid (show hlHd x ++ hlTl (x.counters.take (k + 1)) = (hlHd x ++ hlTl (x.counters.take k)) ++ [(c, 8), (0#64, 8)] by
        obtain ⟨h5, rfl⟩ := List.getElem?_eq_some_iff.1 hc
        rw [List.take_succ_eq_append_getElem h5, List.append_assoc]
        congr 1
        unfold hlTl; rw [List.flatMap_append]; rfl)
      clear hc
      go_wp2_with (first
        | (refine wpList_index_u64 rfl (.tmp 32) (.tmp 33) rfl x.counters HX.out rfl k rfl c HC.out ?_)
        | (go_at_call 29; go_loud (refine (f_any _ 8 wr).mono ?_; rintro r w1 ⟨rfl, hw⟩; have D2 := Lib.hid (gr_tr D1.out hw); have O2 := Lib.hid (own_below O1.out hw); clear hw))
        | (go_at_call 29; go_loud (refine (f_any _ 8 w1).mono ?_; rintro r w2 ⟨rfl, hw⟩; have D3 := Lib.hid (gr_tr D2.out hw); have O3 := Lib.hid (own_below O2.out hw); clear hw))
        | (at_builtin; refine app_fields2 rfl (.tmp 36) (.tmp 40) rfl _ W.heap.size (9 + 2 * k) (hlHd x ++ hlTl (x.counters.take k)) rfl O3.out D3.out.size (c, 8) (0#64, 8) _ rfl (by omega) ?_; intro v2 w4 ho hb; have O4 := Lib.hid ho; have D4 := Lib.hid (D3.out.trans hb); clear ho hb))
      go_roundw
      case rel => exact ⟨k + 1, by omega, by go_num, by rw [HS.out]; exact O4.out, D4.out⟩
      case measure => simp [intOf]; omega
    · obtain rfl : k = 10 := by omega
      have e10 : x.counters.take 10 = x.counters := List.take_of_length_le (by rw [HX.out]; decide)
      have FV := Lib.hid (show FieldsV wr u3 (hlFl x) from FieldsV.own (hlFl_n x HX.out).symm (by have := O1.out; rwa [e10] at this))
      clear e10
      go_wp2_with (go_at_call 28; go_loud (refine (page_any 512 512 _ (hlFl x) B _ rfl FV.out (by rw [hlFl_n x HX.out]; decide) (hl_e x) (by omega) (by rw [hl_len, HX.out]; decide) HB.out).mono ?_; rintro r w3 ⟨u3, rfl, ho, hw⟩; have V3 := Lib.hid (own_base ho (Nat.le_trans D.out.size D1.out.size)); have D3 := Lib.hid (gr_tr D1.out hw); clear ho hw))
      go_ret
      exact ⟨_, rfl, V3.out, gr_tr D.out D3.out⟩
end Go.Proofs.YthnnopjakpjoeaaGreatDoor
namespace Go.Proofs.YthnnopjakpjoeaaGreatDoor
open Go.RowKit Lg
set_option linter.unusedVariables false
set_option linter.unusedSimpArgs false
namespace Lg
def hlOk (x : Hl) : Bool := x.counters.length == 10
def hlE (x : Hl) : Int := if hlOk x then 0 else 2
def hlR (x : Hl) : List (BitVec 8) := if hlOk x then hlB x else []
def hlOkB (l : List (BitVec 8)) : Bool := hlOk (hlRd l) && (hlB (hlRd l) == l)
def hlX (l : List (BitVec 8)) (k : Nat) : Hl := { hlRd l with counters := (hlCs l).take k ++ List.replicate (10 - k) 0#64 }
def hlA (l : List (BitVec 8)) (k : Nat) : Array Value := (Hl.cells (hlX l k)).toArray
theorem hlCs_len (l : List (BitVec 8)) : (hlCs l).length = 10 := by unfold hlCs; rw [List.length_map, List.length_range]
theorem hlX_len (l : List (BitVec 8)) (k : Nat) (hk : k ≤ 10) : (hlX l k).counters.length = 10 := by
  show ((hlCs l).take k ++ List.replicate (10 - k) 0#64).length = 10
  rw [List.length_append, List.length_take, hlCs_len, List.length_replicate, Nat.min_eq_left hk]; omega
theorem hl_size (x : Hl) (h : x.counters.length = 10) : (Hl.cells x).toArray.size = 15 := by
  rw [List.size_toArray, hl_cells, List.length_append]
  unfold wd
  rw [List.length_map, h]; rfl
theorem hl_one (x : Hl) : (Hl.cells x).toArray.all (·.oneCell') = true := by
  rw [hl_cells]
  simp [wd, Value.oneCell']
theorem hlA_set (l : List (BitVec 8)) (k : Nat) (c : BitVec 64) (hk : k < 10) (hc : num l (32 + 16 * k) 8 = c) : (hlA l k).setIfInBounds (5 + k) (.int .u64 (uv c)) = hlA l (k + 1) := by
  unfold hlA
  rw [hl_cells, hl_cells, List.setIfInBounds_toArray]
  congr 1
  rw [List.set_append_right _ _ (by simp)]
  show _ ++ _ = _ ++ wd ((hlCs l).take (k + 1) ++ List.replicate (10 - (k + 1)) 0#64)
  congr 1
  show (wd ((hlCs l).take k ++ List.replicate (10 - k) 0#64)).set (5 + k - 5) _ = _
  unfold wd
  rw [← List.map_set (f := fun x : BitVec 64 => Value.int .u64 (uv x)) (a := c)]
  congr 1
  have h1 : ((hlCs l).take k).length = k := by rw [List.length_take, hlCs_len]; omega
  rw [show 5 + k - 5 = k by omega, List.set_append_right _ _ (by omega), h1, Nat.sub_self, show 10 - k = (10 - (k + 1)) + 1 by omega, List.replicate_succ, List.set_cons_zero,
    List.take_succ_eq_append_getElem (by rw [hlCs_len]; exact hk), List.append_assoc]
  congr 1
  rw [List.singleton_append]
  congr 1
  unfold hlCs
  rw [List.getElem_map, List.getElem_range, hc]
theorem hlA_ten (l : List (BitVec 8)) : hlA l 10 = (Hl.cells (hlRd l)).toArray := by
  unfold hlA hlX
  rw [List.take_of_length_le (by rw [hlCs_len]; decide), Nat.sub_self]
  show (Hl.cells { hlRd l with counters := hlCs l ++ [] }).toArray = _
  rw [List.append_nil]; rfl
theorem hlA_size (l : List (BitVec 8)) (k : Nat) (hk : k ≤ 10) : (hlA l k).size = 15 := hl_size _ (hlX_len l k hk)
theorem hlA_get (l : List (BitVec 8)) (k : Nat) (hk : k < 10) : (hlA l k)[5 + k]? = some (.int .u64 0) := by
  unfold hlA
  rw [List.getElem?_toArray, hl_cells, List.getElem?_append_right (by simp)]
  show (wd ((hlCs l).take k ++ List.replicate (10 - k) 0#64))[5 + k - 5]? = _
  unfold wd
  have h1 : ((hlCs l).take k).length = k := by rw [List.length_take, hlCs_len]; omega
  rw [show 5 + k - 5 = k by omega, List.getElem?_map, List.getElem?_append_right (by omega), h1, Nat.sub_self, List.getElem?_replicate, if_pos (by omega)]; rfl
theorem hl_dec_len {f : List (BitVec 8) → Bool} {l : List (BitVec 8)} {y : Hl} {e : Int} (h : decP 512 hlRd f hlZ l = (y, e)) : y.counters.length = 10 := by
  unfold decP at h
  repeat' (split at h)
  all_goals (cases h)
  all_goals first | rfl | exact hlRd_len l
end Lg
theorem rd_chgH {w w' : World} {T : TypeId} {r d Y : Nat} {v : Value} {l : List (BitVec 8)} {n : Nat} (h : RdAt w T r d v l n) (c : Chg (fun b => b = Y) w w') (hY : r < Y) : RdAt w' T r d v l n :=
  ⟨c.blk h.blk (by omega), h.bytes.chg c (fun g o m k e hg => by have h1 := h.old ⟨g, o, none⟩ m k e; have h2 := h.le; simp only at h1; omega), h.small, h.old, h.le⟩
set_option maxHeartbeats 3200000 in
set_option maxRecDepth 20000 in
theorem readHl_at {d : Nat} (p : Nat) (v : Value) (l : List (BitVec 8)) (w : World) (hp : RdAt w 165 p d v l 0) (hl : l.length = 512) :
    Calls Tryz.prog 45 #[.pointer (some ⟨p, 0, none⟩)] w fun e w' => e = .returned (.agg (Hl.cells (hlRd l)).toArray) ∧ Chg (fun b => b = p) w w' := by
  have A0 := Lib.hid (show hlA l 0 = #[.int .u8 (uv ((num l 0 1).setWidth 8)), .int .u16 (uv ((num l 1 2).setWidth 16)), .int .u8 (uv ((num l 3 1).setWidth 8)), .int .u8 (uv ((num l 4 1).setWidth 8)), .int .u8 (uv ((num l 5 1).setWidth 8)), .int .u64 0, .int .u64 0, .int .u64 0, .int .u64 0, .int .u64 0, .int .u64 0, .int .u64 0, .int .u64 0, .int .u64 0, .int .u64 0] from rfl)
  have AS := Lib.hid (fun (k : Nat) (c : BitVec 64) (hk : k < 10) (hc : num l (32 + 16 * k) 8 = c) => hlA_set l k c hk hc)
  have AG := Lib.hid (fun (k : Nat) (hk : k < 10) => hlA_get l k hk)
  have AZ := Lib.hid (hlA_size l 10 (Nat.le_refl _))
  have AO := Lib.hid (show (hlA l 10).all (·.oneCell') = true from hl_one _)
  rw [← hlA_ten l]
  obtain ⟨A, hA⟩ : ∃ A, hlA l = A := ⟨_, rfl⟩
  rw [hA] at A0 AS AG AZ AO
  rw [hA]
  clear hA
  obtain ⟨x0, h0⟩ : ∃ x, num l 0 1 = x := ⟨_, rfl⟩
  obtain ⟨x1, h1⟩ : ∃ x, num l 1 2 = x := ⟨_, rfl⟩
  obtain ⟨x2, h2⟩ : ∃ x, num l 3 1 = x := ⟨_, rfl⟩
  obtain ⟨x3, h3⟩ : ∃ x, num l 4 1 = x := ⟨_, rfl⟩
  obtain ⟨x4, h4⟩ : ∃ x, num l 5 1 = x := ⟨_, rfl⟩
  rw [h0, h1, h2, h3, h4] at A0
  have H0 := Lib.hid h0; have H1 := Lib.hid h1; have H2 := Lib.hid h2; have H3 := Lib.hid h3; have H4 := Lib.hid h4; have HL := Lib.hid hl
  have PLT := Lib.hid hp.lt
  obtain ⟨w0, hW⟩ : ∃ W, W = w.alloc (.cells #[.int .u8 0, .int .u16 0, .int .u8 0, .int .u8 0, .int .u8 0, .int .u64 0, .int .u64 0, .int .u64 0, .int .u64 0, .int .u64 0, .int .u64 0, .int .u64 0, .int .u64 0, .int .u64 0, .int .u64 0] 47) := ⟨_, rfl⟩
  have D := Lib.hid (show Below w.heap.size w w0 by rw [hW]; exact gr_alloc w _)
  have X0 := Lib.hid (show w0.heap[w.heap.size]? = some (.cells #[.int .u8 0, .int .u16 0, .int .u8 0, .int .u8 0, .int .u8 0, .int .u64 0, .int .u64 0, .int .u64 0, .int .u64 0, .int .u64 0, .int .u64 0, .int .u64 0, .int .u64 0, .int .u64 0, .int .u64 0] 47 (0, 0)) by rw [hW]; exact heap_alloc_new w _)
  have R0 := Lib.hid (show RdAt w0 165 p d v (l.drop 0) 0 by rw [List.drop_zero]; exact hp.below D.out)
  have NP := Lib.hid (show ¬ w.heap.size = p by have := PLT.out; omega)
  obtain ⟨v0, hv0⟩ : ∃ u, u = v := ⟨_, rfl⟩
  rw [← hv0] at R0
  have HW := Lib.hid hW
  clear h0 h1 h2 h3 h4 hl hp hW hv0
  go_enter Tryz.func45, Tryz.ntmps45
  go_upto_region 1 with (fail)
  rw [← HW.out]
  have CC0 := Lib.hid (Chg.of_below (B := fun b => b = p) D.out)
  have C0 := CC0
  go_upto_region 2 with (first
    | (go_at_call 35; go_loud ((with_reducible refine (next_at p v0 l 0 0 1 1 x0 w0 rfl R0.out (by decide) (by decide) (by rw [HL.out]; decide) H0.out).mono ?_); rintro r w1 ⟨rfl, ⟨v1, hr⟩, hc⟩; have R1 := Lib.hid hr; have C1 := Lib.hid (C0.out.trans hc); have X1 := Lib.hid (hc.blk X0.out NP.out); clear hr hc))
    | (go_at_call 35; go_loud ((with_reducible refine (next_at p v1 l 1 1 2 2 x1 w1 rfl R1.out (by decide) (by decide) (by rw [HL.out]; decide) H1.out).mono ?_); rintro r w2 ⟨rfl, ⟨v2, hr⟩, hc⟩; have R2 := Lib.hid hr; have C2 := Lib.hid (C1.out.trans hc); have X2 := Lib.hid (hc.blk X1.out NP.out); clear hr hc))
    | (go_at_call 35; go_loud ((with_reducible refine (next_at p v2 l 3 3 1 1 x2 w2 rfl R2.out (by decide) (by decide) (by rw [HL.out]; decide) H2.out).mono ?_); rintro r w3 ⟨rfl, ⟨v3, hr⟩, hc⟩; have R3 := Lib.hid hr; have C3 := Lib.hid (C2.out.trans hc); have X3 := Lib.hid (hc.blk X2.out NP.out); clear hr hc))
    | (go_at_call 35; go_loud ((with_reducible refine (next_at p v3 l 4 4 1 1 x3 w3 rfl R3.out (by decide) (by decide) (by rw [HL.out]; decide) H3.out).mono ?_); rintro r w4 ⟨rfl, ⟨v4, hr⟩, hc⟩; have R4 := Lib.hid hr; have C4 := Lib.hid (C3.out.trans hc); have X4 := Lib.hid (hc.blk X3.out NP.out); clear hr hc))
    | (go_at_call 35; go_loud ((with_reducible refine (next_at p v4 l 5 5 1 1 x4 w4 rfl R4.out (by decide) (by decide) (by rw [HL.out]; decide) H4.out).mono ?_); rintro r w5 ⟨rfl, ⟨v5, hr⟩, hc⟩; have R5 := Lib.hid hr; have C5 := Lib.hid (C4.out.trans hc); have X5 := Lib.hid (hc.blk X4.out NP.out); clear hr hc))
    | (refine wpList_store_new rfl 47 (.tmp 3) (.tmp 20) rfl #[.int .u8 (uv (x0.setWidth 8)), .int .u16 (uv (x1.setWidth 16)), .int .u8 (uv (x2.setWidth 8)), .int .u8 (uv (x3.setWidth 8)), .int .u8 (uv (x4.setWidth 8)), .int .u64 0, .int .u64 0, .int .u64 0, .int .u64 0, .int .u64 0, .int .u64 0, .int .u64 0, .int .u64 0, .int .u64 0, .int .u64 0] 47 _ rfl rfl (by kernel_rfl) rfl (by simp [Value.oneCell']) ?_; intro w6 hh hb; have Y6 := Lib.hid hh; have R6 := Lib.hid (R5.out.below hb); have C6 := Lib.hid (C5.out.trans (Chg.of_below (B := fun b => b = p) hb)); have X6 := Lib.hid (blk_below X5.out hb); clear hh hb))
  obtain ⟨Y, hY⟩ : ∃ Y, w5.heap.size = Y := ⟨_, rfl⟩
  have NE := Lib.hid (show ¬ Y = p ∧ ¬ w.heap.size = Y ∧ w.heap.size ≤ Y ∧ p < Y by
    have h1 := PLT.out; have h2 := C5.out.size; have h3 := (Array.getElem?_eq_some_iff.1 X5.out).1; omega)
  rw [hY] at Y6 ⊢
  rw [← A0.out] at Y6
  clear hY CC0
  go_upto_region 4 with (go_at_call 36; go_loud (refine (skip_at p v5 l 6 6 26 26 w6 rfl R6.out (by rw [HL.out]; decide)).mono ?_; rintro r w7 ⟨rfl, ⟨v7, hr⟩, hc⟩; have R7 := Lib.hid hr; have C7 := Lib.hid (C6.out.trans hc); have X7 := Lib.hid (hc.blk X6.out NP.out); have Y7 := Lib.hid (hc.blk Y6.out NE.out.1); clear hr hc))
  go_loopw [4, 23] (fun _ i wr => ∃ k : Nat, k ≤ 10 ∧ i = .int .i64 k ∧ (∃ vk, RdAt wr 165 p d vk (l.drop (32 + 16 * k)) (32 + 16 * k)) ∧ Chg (fun b => b = p) w wr ∧ wr.heap[w.heap.size]? = some (.cells #[.int .u8 0, .int .u16 0, .int .u8 0, .int .u8 0, .int .u8 0, .int .u64 0, .int .u64 0, .int .u64 0, .int .u64 0, .int .u64 0, .int .u64 0, .int .u64 0, .int .u64 0, .int .u64 0, .int .u64 0] 47 (0, 0)) ∧ wr.heap[Y]? = some (.cells (A k) 47 (0, 0))) (fun _ i _ => 10 - (intOf i).toNat)
  case atStart => exact ⟨0, by omega, rfl, ⟨_, R7.out⟩, C7.out, X7.out, Y7.out⟩
  case round =>
    obtain ⟨k, hk, rfl, ⟨va, hr⟩, hb, hx, hy⟩ := hrel
    have Ra := Lib.hid hr; have Ca := Lib.hid hb; have Xa := Lib.hid hx; have Ya := Lib.hid hy; clear hr hb hx hy
    by_cases hlt : k < 10
    · obtain ⟨c, hc⟩ : ∃ c, num l (32 + 16 * k) 8 = c := ⟨_, rfl⟩
      have HC := Lib.hid hc
      have SS := Lib.hid (AS.out k c hlt hc)
      clear hc
      have hk0 : (0 : Int) ≤ (k : Int) := by omega
      have hk1 : (k : Int) < 10 := by omega
      go_wp2_with (first
        | (go_at_call 35; go_loud ((with_reducible refine (next_at p va l (32 + 16 * k) (32 + 16 * k) 8 8 c wr rfl Ra.out (by decide) (by decide) (by rw [HL.out]; omega) HC.out).mono ?_); rintro r wb ⟨rfl, ⟨vb, hr⟩, hc⟩; have Rb := Lib.hid hr; have Cb := Lib.hid (Ca.out.trans hc); have Xb := Lib.hid (hc.blk Xa.out NP.out); have Yb := Lib.hid (hc.blk Ya.out NE.out.1); have yb : wb.cell? ⟨Y, 5 + k, none⟩ = some (.int .u64 0) := (cell_of_row _ _ _ _ _ _ Yb.out).trans (AG.out k hlt); have fb := frozen_of_row _ _ (5 + k) _ _ Yb.out; clear hr hc))
        | (go_at_call 36
           obtain ⟨wc, hwc⟩ : ∃ wc, wc = wb.setCell ⟨Y, 5 + k, none⟩ (.int .u64 (uv c)) := ⟨_, rfl⟩
           have cc : Chg (fun b => b = Y) wb wc := by rw [hwc]; exact Chg.setCell (B := fun b => b = Y) (p := ⟨Y, 5 + k, none⟩) _ rfl _
           have Yc := Lib.hid (show wc.heap[Y]? = some (.cells (A (k + 1)) 47 (0, 0)) by rw [hwc, ← SS.out]; exact heap_setCell_same _ _ _ _ _ _ Yb.out)
           have Xc := Lib.hid (cc.blk Xb.out NE.out.2.1)
           have Cc := Lib.hid (chg_newer Cb.out cc (fun g hg => by subst hg; exact NE.out.2.2.1))
           have Rc := Lib.hid (rd_chgH Rb.out cc NE.out.2.2.2)
           rw [← hwc]
           clear hwc cc yb fb
           go_loud (refine (skip_at p vb l (32 + 16 * k + 8) (32 + 16 * k + 8) 8 8 wc rfl Rc.out (by rw [HL.out]; omega)).mono ?_; rintro r wd ⟨rfl, ⟨vd, hr⟩, hc⟩; have Rd := Lib.hid hr; have Cd := Lib.hid (Cc.out.trans hc); have Xd := Lib.hid (hc.blk Xc.out NP.out); have Yd := Lib.hid (hc.blk Yc.out NE.out.1); clear hr hc)))
      go_roundw
      case rel => exact ⟨k + 1, by omega, by go_num, ⟨_, by have h := Rd.out; rwa [show 32 + 16 * k + 8 + 8 = 32 + 16 * (k + 1) by omega] at h⟩, Cd.out, Xd.out, Yd.out⟩
      case measure => simp [intOf]; omega
    · obtain rfl : k = 10 := by omega
      go_wp2_with (first
        | (refine wpList_load_row rfl 47 (.tmp 3) rfl Y rfl 47 (A 10) (0, 0) _ Ya.out Tryz.underlying47 rfl (by rw [AZ.out]; kernel_rfl) ?_)
        | (refine wpList_store_row rfl 47 (.tmp 2) (.tmp 34) rfl w.heap.size (A 10) rfl rfl 47 _ Xa.out (by rw [AZ.out]; kernel_rfl) (by rw [AZ.out]; rfl) AO.out ?_))
      exact bodyPost_ret (results_cell_row rfl _ _ w.heap.size 47 _ (0, 0) _ rfl (setRow_heap _ _ _ _ _ _ Xa.out) Tryz.underlying47 rfl (by rw [AZ.out]; kernel_rfl)) rfl ⟨rfl, chg_newer Ca.out (Chg.setRow (B := fun b => b = w.heap.size) wr rfl _) (fun g hg => by subst hg; exact Nat.le_refl _)⟩
set_option maxHeartbeats 800000 in
set_option maxRecDepth 20000 in
theorem EncHl2_at (x : Hl) (e : Int) (B : List (BitVec 8)) (w : World) (hx : x.counters.length = 10) (he : hlE x = e) (hB : hlR x = B) :
    Calls Tryz.prog 46 #[.agg (Hl.cells x).toArray] w fun r w' => ∃ u, r = .returned (.tuple #[u, .int .i64 e]) ∧ w'.ownsRow w.heap.size 5 1 u B.length (by8 B) ∧ Below w.heap.size w w' := by
  have ho : hlOk x = true := by unfold hlOk; rw [hx]; rfl
  unfold hlE at he
  unfold hlR at hB
  rw [ho] at he hB
  simp only [if_true] at he hB
  subst he
  have EN := Lib.hid (fun w => EncHl_at x B w hx hB)
  have SZ := Lib.hid (hl_size x hx)
  obtain ⟨cx, hcx⟩ : ∃ c, (Hl.cells x).toArray = c := ⟨_, rfl⟩
  rw [hcx] at EN SZ ⊢
  obtain ⟨W, hW⟩ : ∃ W, W = w.alloc (.cells cx 47) := ⟨_, rfl⟩
  have D := Lib.hid (show Below w.heap.size w W by rw [hW]; exact gr_alloc w _)
  have X := Lib.hid (show W.heap[w.heap.size]? = some (.cells cx 47 (0, 0)) by rw [hW]; exact heap_alloc_new w _)
  have HW := Lib.hid hW
  clear hW hcx hx hB ho
  go_enter Tryz.func46, Tryz.ntmps46
  go_upto_region 1 with (fail)
  first
    | rw [← HW.out]
    | (show Code.wp _ _ _ _ (w.alloc (.cells cx 47)); rw [← HW.out])
  go_wp2_with (first
    | (refine wpList_load_row rfl 47 (.tmp 1) rfl w.heap.size rfl 47 cx (0, 0) _ X.out Tryz.underlying47 rfl (by rw [SZ.out]; kernel_rfl) ?_)
    | (go_at_call 14; go_loud (refine (EN.out _).mono ?_; rintro r w3 ⟨u3, rfl, ho, hw⟩; have V3 := Lib.hid (own_base ho D.out.size); have D3 := Lib.hid (gr_tr D.out hw); clear ho hw)))
  go_ret2
  exact ⟨_, rfl, V3.out, D3.out⟩
set_option maxHeartbeats 3200000 in
set_option maxRecDepth 20000 in
theorem decoded_Hl (l : List (BitVec 8)) (bv : Value) (w : World) (y : Hl) (e : Int) (hb : BytesV w bv l) (hl : l.length ≤ 140737488355328) (hd : decP 512 hlRd hlOkB hlZ l = (y, e)) :
    Calls Tryz.prog 44 #[bv, .int .i64 512, .func (.func 45) #[] #[], .func (.func 46) #[] #[]] w fun r w' => r = .returned (.tuple #[.agg (Hl.cells y).toArray, .int .i64 e]) ∧ Below w.heap.size w w' := by
  obtain ⟨av, cv, rfl, hv0, hv1, hv2, hv3⟩ := id hb
  have hm : l.length ≤ 9223372036854775807 := by omega
  have BV := Lib.hid hb
  have HLL := Lib.hid hl
  obtain ⟨V, hV⟩ : ∃ V, V = w.alloc (.cells #[.int .u8 0, .int .u16 0, .int .u8 0, .int .u8 0, .int .u8 0, .int .u64 0, .int .u64 0, .int .u64 0, .int .u64 0, .int .u64 0, .int .u64 0, .int .u64 0, .int .u64 0, .int .u64 0, .int .u64 0] 47) := ⟨_, rfl⟩
  have DV := Lib.hid (show Below w.heap.size w V by rw [hV]; exact gr_alloc w _)
  have XV := Lib.hid (show V.heap[w.heap.size]? = some (.cells #[.int .u8 0, .int .u16 0, .int .u8 0, .int .u8 0, .int .u8 0, .int .u64 0, .int .u64 0, .int .u64 0, .int .u64 0, .int .u64 0, .int .u64 0, .int .u64 0, .int .u64 0, .int .u64 0, .int .u64 0] 47 (0, 0)) by rw [hV]; exact heap_alloc_new w _)
  have VS := Lib.hid (show w.heap.size < V.heap.size by rw [hV]; simp)
  have HV := Lib.hid hV
  have ZS := Lib.hid (show (Hl.cells hlZ).toArray = #[.int .u8 0, .int .u16 0, .int .u8 0, .int .u8 0, .int .u8 0, .int .u64 0, .int .u64 0, .int .u64 0, .int .u64 0, .int .u64 0, .int .u64 0, .int .u64 0, .int .u64 0, .int .u64 0, .int .u64 0] from rfl)
  clear hb hv0 hv1 hv2 hv3 hV hl
  unfold decP at hd
  by_cases p1 : l.length < 512
  · rw [if_pos p1] at hd
    cases hd
    rw [ZS.out]
    have d1 : decide ((l.length : Int) < 512) = true := decide_eq_true (by omega)
    have d1b : decide (l.length < 512) = true := decide_eq_true (by omega)
    clear p1
    go_enter Tryz.func44, Tryz.ntmps44
    go_upto_region 1 with (fail)
    rw [← HV.out]
    go_wp2_with (first
      | (refine wpList_load_row rfl 47 (.tmp 8) rfl w.heap.size rfl 47 #[.int .u8 0, .int .u16 0, .int .u8 0, .int .u8 0, .int .u8 0, .int .u64 0, .int .u64 0, .int .u64 0, .int .u64 0, .int .u64 0, .int .u64 0, .int .u64 0, .int .u64 0, .int .u64 0, .int .u64 0] (0, 0) _ XV.out Tryz.underlying47 rfl (by kernel_rfl) ?_)
      | (refine wpList_store_row rfl 47 (.tmp 8) (.tmp 18) rfl w.heap.size #[.int .u8 0, .int .u16 0, .int .u8 0, .int .u8 0, .int .u8 0, .int .u64 0, .int .u64 0, .int .u64 0, .int .u64 0, .int .u64 0, .int .u64 0, .int .u64 0, .int .u64 0, .int .u64 0, .int .u64 0] rfl rfl 47 _ XV.out (by kernel_rfl) rfl (by simp [Value.oneCell']) ?_))
    exact bodyPost_ret (results_row_tmp rfl _ _ w.heap.size 47 #[.int .u8 0, .int .u16 0, .int .u8 0, .int .u8 0, .int .u8 0, .int .u64 0, .int .u64 0, .int .u64 0, .int .u64 0, .int .u64 0, .int .u64 0, .int .u64 0, .int .u64 0, .int .u64 0, .int .u64 0] (0, 0) _ rfl (setRow_heap _ _ _ _ _ _ XV.out) Tryz.underlying47 rfl (by kernel_rfl)) rfl ⟨rfl, below_setRow DV.out (Nat.le_refl _) _⟩
  rw [if_neg p1] at hd
  have d1 : decide ((l.length : Int) < 512) = false := decide_eq_false (by omega)
  have d1b : decide (l.length < 512) = false := decide_eq_false (by omega)
  by_cases p2 : 512 < l.length
  · rw [if_pos p2] at hd
    cases hd
    rw [ZS.out]
    have d2 : decide (512 < (l.length : Int)) = true := decide_eq_true (by omega)
    have d2b : decide (512 < l.length) = true := decide_eq_true (by omega)
    clear p1 p2
    go_enter Tryz.func44, Tryz.ntmps44
    go_upto_region 1 with (fail)
    rw [← HV.out]
    go_wp2_with (first
      | (refine wpList_load_row rfl 47 (.tmp 8) rfl w.heap.size rfl 47 #[.int .u8 0, .int .u16 0, .int .u8 0, .int .u8 0, .int .u8 0, .int .u64 0, .int .u64 0, .int .u64 0, .int .u64 0, .int .u64 0, .int .u64 0, .int .u64 0, .int .u64 0, .int .u64 0, .int .u64 0] (0, 0) _ XV.out Tryz.underlying47 rfl (by kernel_rfl) ?_)
      | (refine wpList_store_row rfl 47 (.tmp 8) (.tmp 24) rfl w.heap.size #[.int .u8 0, .int .u16 0, .int .u8 0, .int .u8 0, .int .u8 0, .int .u64 0, .int .u64 0, .int .u64 0, .int .u64 0, .int .u64 0, .int .u64 0, .int .u64 0, .int .u64 0, .int .u64 0, .int .u64 0] rfl rfl 47 _ XV.out (by kernel_rfl) rfl (by simp [Value.oneCell']) ?_))
    exact bodyPost_ret (results_row_tmp rfl _ _ w.heap.size 47 #[.int .u8 0, .int .u16 0, .int .u8 0, .int .u8 0, .int .u8 0, .int .u64 0, .int .u64 0, .int .u64 0, .int .u64 0, .int .u64 0, .int .u64 0, .int .u64 0, .int .u64 0, .int .u64 0, .int .u64 0] (0, 0) _ rfl (setRow_heap _ _ _ _ _ _ XV.out) Tryz.underlying47 rfl (by kernel_rfl)) rfl ⟨rfl, below_setRow DV.out (Nat.le_refl _) _⟩
  rw [if_neg p2] at hd
  have d2 : decide (512 < (l.length : Int)) = false := decide_eq_false (by omega)
  have d2b : decide (512 < l.length) = false := decide_eq_false (by omega)
  have HL := Lib.hid (show l.length = 512 by omega)
  have HD := Lib.hid hd
  clear p1 p2 hd
  obtain ⟨x, hx⟩ : ∃ x, hlRd l = x := ⟨_, rfl⟩
  have HX := Lib.hid hx
  obtain ⟨cx, hcx⟩ : ∃ c, (Hl.cells x).toArray = c := ⟨_, rfl⟩
  have HCX := Lib.hid hcx
  have SZX := Lib.hid (show cx.size = 15 by rw [← hcx]; exact hl_size x (by rw [← hx]; exact hlRd_len l))
  have ONX := Lib.hid (show cx.all (·.oneCell') = true by rw [← hcx]; exact hl_one x)
  clear hx hcx
  obtain ⟨bo, hbo⟩ : ∃ b, hlOk x = b := ⟨_, rfl⟩
  have HO := Lib.hid hbo; clear hbo
  go_enter Tryz.func44, Tryz.ntmps44
  go_upto_region 1 with (fail)
  rw [← HV.out]
  go_upto_region 6 with (first
    | (go_at_call 70; go_loud (refine (NewReader_any _ l _ (BV.out.below DV.out) HLL.out).mono ?_; rintro r w1 ⟨p, v, rfl, hp, hr, hw⟩; have HP := Lib.hid hp; have R := Lib.hid hr; have D1 := Lib.hid (gr_tr DV.out hw); have DW := Lib.hid hw; clear hp hr hw))
    | (go_at_call 45; go_loud (refine (readHl_at p v l _ R.out HL.out).mono ?_; rw [HX.out, HCX.out]; rintro r w2 ⟨rfl, hc⟩; have D2 := Lib.hid (hc.fresh D1.out (fun k hk => by have h1 := HP.out; have h2 := VS.out; subst hk; omega)); have X2 := Lib.hid (hc.blk (blk_below XV.out DW.out) (fun hk => by have h1 := HP.out; have h2 := VS.out; subst hk; omega)); clear hc))
    | (refine wpList_store_new rfl 47 (.tmp 10) (.tmp 28) rfl cx 47 _ rfl rfl (by rw [SZX.out]; kernel_rfl) (by rw [SZX.out]; rfl) ONX.out ?_; intro w3 hh hw; have Y3 := Lib.hid hh; have D3 := Lib.hid (gr_tr D2.out hw); have X3 := Lib.hid (blk_below X2.out hw); clear hh hw))
  clear d1 d1b d2 d2b
  have B3 := Lib.hid (BV.out.below D3.out)
  cases bo
  · have ENC := fun w => EncHl2_at x 2 [] w (by rw [← HX.out]; exact hlRd_len l) (by unfold hlE; rw [HO.out]; rfl) (by unfold hlR; rw [HO.out]; rfl)
    rw [HCX.out] at ENC
    go_wp2_with (first
      | (refine wpList_load_row rfl 47 (.tmp 10) rfl w2.heap.size rfl 47 cx (0, 0) _ Y3.out Tryz.underlying47 rfl (by rw [SZX.out]; kernel_rfl) ?_)
      | (go_at_call 46; go_loud (refine (ENC _).mono ?_; rintro r w4 ⟨u, rfl, hu, hw⟩; have D4 := Lib.hid (gr_tr D3.out hw); have X4 := Lib.hid (blk_below X3.out hw); clear hu hw))
      | (refine wpList_load_row rfl 47 (.tmp 8) rfl w.heap.size rfl 47 #[.int .u8 0, .int .u16 0, .int .u8 0, .int .u8 0, .int .u8 0, .int .u64 0, .int .u64 0, .int .u64 0, .int .u64 0, .int .u64 0, .int .u64 0, .int .u64 0, .int .u64 0, .int .u64 0, .int .u64 0] (0, 0) _ X4.out Tryz.underlying47 rfl (by kernel_rfl) ?_)
      | (refine wpList_store_row rfl 47 (.tmp 8) (.tmp 43) rfl w.heap.size #[.int .u8 0, .int .u16 0, .int .u8 0, .int .u8 0, .int .u8 0, .int .u64 0, .int .u64 0, .int .u64 0, .int .u64 0, .int .u64 0, .int .u64 0, .int .u64 0, .int .u64 0, .int .u64 0, .int .u64 0] rfl rfl 47 _ X4.out (by kernel_rfl) rfl (by simp [Value.oneCell']) ?_))
    obtain ⟨e1, e2⟩ : y = hlZ ∧ e = 6 := by
      have h := HD.out
      unfold hlOkB at h
      rw [HX.out, HO.out] at h
      simp at h
      exact ⟨h.1.symm, h.2.symm⟩
    rw [e1, e2, ZS.out]
    exact bodyPost_ret (results_row_tmp rfl _ _ w.heap.size 47 #[.int .u8 0, .int .u16 0, .int .u8 0, .int .u8 0, .int .u8 0, .int .u64 0, .int .u64 0, .int .u64 0, .int .u64 0, .int .u64 0, .int .u64 0, .int .u64 0, .int .u64 0, .int .u64 0, .int .u64 0] (0, 0) _ rfl (setRow_heap _ _ _ _ _ _ X4.out) Tryz.underlying47 rfl (by kernel_rfl)) rfl ⟨rfl, below_setRow D4.out (Nat.le_refl _) _⟩
  have ENC := fun w => EncHl2_at x 0 (hlB x) w (by rw [← HX.out]; exact hlRd_len l) (by unfold hlE; rw [HO.out]; rfl) (by unfold hlR; rw [HO.out]; rfl)
  rw [HCX.out] at ENC
  obtain ⟨bq, hbq⟩ : ∃ b, (hlB x == l) = b := ⟨_, rfl⟩
  have HQ := Lib.hid hbq; clear hbq
  obtain ⟨NB, hNB⟩ : ∃ B, hlB x = B := ⟨_, rfl⟩
  rw [hNB] at ENC
  have HNB := Lib.hid hNB
  clear hNB
  cases bq
  · have HQN := Lib.hid (show (NB == l) = false by rw [← HNB.out]; exact HQ.out)
    go_wp2_with (first
      | (refine wpList_load_row rfl 47 (.tmp 10) rfl w2.heap.size rfl 47 cx (0, 0) _ Y3.out Tryz.underlying47 rfl (by rw [SZX.out]; kernel_rfl) ?_)
      | (go_at_call 46; go_loud (refine (ENC _).mono ?_; rintro r w4 ⟨u, rfl, hu, hw⟩; have U := Lib.hid (BytesV.of_own hu); have B4 := Lib.hid (B3.out.below hw); have D4 := Lib.hid (gr_tr D3.out hw); have X4 := Lib.hid (blk_below X3.out hw); clear hu hw))
      | (go_at_call 71; go_loud (refine (eqB_at _ _ _ _ _ _ U.out B4.out HQN.out).mono ?_; rintro r w5 ⟨rfl, rfl⟩))
      | (refine wpList_load_row rfl 47 (.tmp 8) rfl w.heap.size rfl 47 #[.int .u8 0, .int .u16 0, .int .u8 0, .int .u8 0, .int .u8 0, .int .u64 0, .int .u64 0, .int .u64 0, .int .u64 0, .int .u64 0, .int .u64 0, .int .u64 0, .int .u64 0, .int .u64 0, .int .u64 0] (0, 0) _ X4.out Tryz.underlying47 rfl (by kernel_rfl) ?_)
      | (refine wpList_store_row rfl 47 (.tmp 8) (.tmp 43) rfl w.heap.size #[.int .u8 0, .int .u16 0, .int .u8 0, .int .u8 0, .int .u8 0, .int .u64 0, .int .u64 0, .int .u64 0, .int .u64 0, .int .u64 0, .int .u64 0, .int .u64 0, .int .u64 0, .int .u64 0, .int .u64 0] rfl rfl 47 _ X4.out (by kernel_rfl) rfl (by simp [Value.oneCell']) ?_))
    obtain ⟨e1, e2⟩ : y = hlZ ∧ e = 6 := by
      have h := HD.out
      unfold hlOkB at h
      rw [HX.out, HO.out, HQ.out] at h
      simp at h
      exact ⟨h.1.symm, h.2.symm⟩
    rw [e1, e2, ZS.out]
    exact bodyPost_ret (results_row_tmp rfl _ _ w.heap.size 47 #[.int .u8 0, .int .u16 0, .int .u8 0, .int .u8 0, .int .u8 0, .int .u64 0, .int .u64 0, .int .u64 0, .int .u64 0, .int .u64 0, .int .u64 0, .int .u64 0, .int .u64 0, .int .u64 0, .int .u64 0] (0, 0) _ rfl (setRow_heap _ _ _ _ _ _ X4.out) Tryz.underlying47 rfl (by kernel_rfl)) rfl ⟨rfl, below_setRow D4.out (Nat.le_refl _) _⟩
  · have HQN := Lib.hid (show (NB == l) = true by rw [← HNB.out]; exact HQ.out)
    go_wp2_with (first
      | (refine wpList_load_row rfl 47 (.tmp 10) rfl w2.heap.size rfl 47 cx (0, 0) _ Y3.out Tryz.underlying47 rfl (by rw [SZX.out]; kernel_rfl) ?_)
      | (go_at_call 46; go_loud (refine (ENC _).mono ?_; rintro r w4 ⟨u, rfl, hu, hw⟩; have U := Lib.hid (BytesV.of_own hu); have B4 := Lib.hid (B3.out.below hw); have D4 := Lib.hid (gr_tr D3.out hw); have X4 := Lib.hid (blk_below X3.out hw); have Y4 := Lib.hid (blk_below Y3.out hw); clear hu hw))
      | (go_at_call 71; go_loud (refine (eqB_at _ _ _ _ _ _ U.out B4.out HQN.out).mono ?_; rintro r w5 ⟨rfl, rfl⟩))
      | (refine wpList_load_row rfl 47 (.tmp 10) rfl w2.heap.size rfl 47 cx (0, 0) _ Y4.out Tryz.underlying47 rfl (by rw [SZX.out]; kernel_rfl) ?_)
      | (refine wpList_store_row rfl 47 (.tmp 8) (.tmp 44) rfl w.heap.size cx rfl rfl 47 _ X4.out (by rw [SZX.out]; kernel_rfl) (by rw [SZX.out]; rfl) ONX.out ?_))
    obtain ⟨e1, e2⟩ : y = x ∧ e = 0 := by
      have h := HD.out
      unfold hlOkB at h
      rw [HX.out, HO.out, HQ.out] at h
      simp at h
      exact ⟨h.1.symm, h.2.symm⟩
    rw [e1, e2, HCX.out]
    exact bodyPost_ret (results_row_tmp rfl _ _ w.heap.size 47 cx (0, 0) _ rfl (setRow_heap _ _ _ _ _ _ X4.out) Tryz.underlying47 rfl (by rw [SZX.out]; kernel_rfl)) rfl ⟨rfl, below_setRow D4.out (Nat.le_refl _) _⟩
set_option maxHeartbeats 1600000 in
set_option maxRecDepth 20000 in
theorem Decode_Hl (l : List (BitVec 8)) (bv : Value) (w : World) (y : Hl) (e : Int) (hb : BytesV w bv l) (hl : l.length ≤ 140737488355328) (hd : decP 512 hlRd hlOkB hlZ l = (y, e)) :
    Calls Tryz.prog 13 #[bv] w fun r w' => r = .returned (.tuple #[.agg (Hl.cells y).toArray, .int .i64 e]) ∧ Below w.heap.size w w' := by
  have BV := Lib.hid hb; have HL := Lib.hid hl; have HD := Lib.hid hd
  obtain ⟨V, hV⟩ : ∃ V, V = w.alloc (.cells #[.int .u8 0, .int .u16 0, .int .u8 0, .int .u8 0, .int .u8 0, .int .u64 0, .int .u64 0, .int .u64 0, .int .u64 0, .int .u64 0, .int .u64 0, .int .u64 0, .int .u64 0, .int .u64 0, .int .u64 0] 47) := ⟨_, rfl⟩
  have DV := Lib.hid (show Below w.heap.size w V by rw [hV]; exact gr_alloc w _)
  have XV := Lib.hid (show V.heap[w.heap.size]? = some (.cells #[.int .u8 0, .int .u16 0, .int .u8 0, .int .u8 0, .int .u8 0, .int .u64 0, .int .u64 0, .int .u64 0, .int .u64 0, .int .u64 0, .int .u64 0, .int .u64 0, .int .u64 0, .int .u64 0, .int .u64 0] 47 (0, 0)) by rw [hV]; exact heap_alloc_new w _)
  have HV := Lib.hid hV
  obtain ⟨cy, hcy⟩ : ∃ c, (Hl.cells y).toArray = c := ⟨_, rfl⟩
  have HCY := Lib.hid hcy
  have SZY := Lib.hid (show cy.size = 15 by rw [← hcy]; exact hl_size y (hl_dec_len hd))
  have ONY := Lib.hid (show cy.all (·.oneCell') = true by rw [← hcy]; exact hl_one y)
  rw [hcy]
  clear hb hl hd hV hcy
  go_enter Tryz.func13, Tryz.ntmps13
  go_upto_region 1 with (fail)
  rw [← HV.out]
  go_wp2_with (first
    | (go_at_call 44; go_loud (refine (decoded_Hl l _ _ y e (BV.out.below DV.out) HL.out HD.out).mono ?_; rw [HCY.out]; rintro r w3 ⟨rfl, hw⟩; have D3 := Lib.hid (gr_tr DV.out hw); have X3 := Lib.hid (blk_below XV.out hw); clear hw))
    | (refine wpList_store_row rfl 47 (.tmp 2) (.tmp 6) rfl w.heap.size cy rfl rfl 47 _ X3.out (by rw [SZY.out]; kernel_rfl) (by rw [SZY.out]; rfl) ONY.out ?_))
  exact bodyPost_ret (results_row_tmp rfl _ _ w.heap.size 47 cy (0, 0) _ rfl (setRow_heap _ _ _ _ _ _ X3.out) Tryz.underlying47 rfl (by rw [SZY.out]; kernel_rfl)) rfl ⟨rfl, below_setRow D3.out (Nat.le_refl _) _⟩
end Go.Proofs.YthnnopjakpjoeaaGreatDoor
namespace Go.Proofs.YthnnopjakpjoeaaGreatDoor
open Go.RowKit Lg
set_option linter.unusedVariables false
set_option linter.unusedSimpArgs false
def wh (l : List (BitVec 32)) : List Value := l.map fun y => .int .u32 (uv y)
theorem wh_get (l : List (BitVec 32)) (k : Nat) (x : BitVec 32) (h : l[k]? = some x) : (wh l)[k]? = some (.int .u32 (uv x)) := by
  unfold wh; rw [List.getElem?_map, h]; rfl
theorem w32Ok : ElemOk Tryz.prog 50 42 (.int .u32 0) 1 4 :=
  ⟨Tryz.underlying50, info_parts (by kernel_rfl), rfl, by decide⟩
theorem app_w32 {ops : Array Oper} {rest : List Oper} {o : Oper} {a : Act} {Q : Exit → Act → World → Prop} {W : World} (hgd : o.guard = none) (s x : Operand) (ho : o.op = .call { callee := .builtin .append, args := #[s, x], argTypes := #[50, 50] })
    (u : Value) (base n : Nat) (ks : List (BitVec 32)) (hs : a.eval s = u) (hown : W.ownsRow base 42 1 u n (wh ks)) (hbase : base ≤ W.heap.size) (y : BitVec 32) (ty : TypeId) (hx : a.eval x = .slice (some ⟨W.heap.size, 0, none⟩) 1 1) (hl : n ≤ 100000)
    (h : ∀ v' w', w'.ownsRow base 42 1 v' (n + 1) (wh (ks ++ [y])) → (W.alloc (.cells #[.int .u32 (uv y)] ty)).grownBy w' u.ownBlock → wpList Tryz.prog ops Q rest (a.put o.dst v') w') : wpList Tryz.prog ops Q (o :: rest) a (W.alloc (.cells #[.int .u32 (uv y)] ty)) := by
  have hb := gr_alloc W (.cells #[.int .u32 (uv y)] ty)
  refine app_law_at w32Ok hgd s x ho base u n (wh ks) hs (own_below hown hb) (some ⟨W.heap.size, 0, none⟩) 1 1 (wh [y]) hx some_none (Nat.le_refl _) (Row.lit W #[.int .u32 (uv y)] ty (0, 0)) rfl (by intro u hu; simp [wh] at hu; subst hu; rfl) (by omega) (by omega) (Nat.le_trans hbase hb.size) ?_
  intro v' w' h1 h2 h3
  exact h v' w' (by unfold wh at h1 ⊢; rw [List.map_append]; exact h1) h2
theorem chg_growN {w wr w2 : World} {p : Nat} {e : TypeId} {size n : Nat} {u : Value} {xs : List Value} (hc : Chg (fun b => b = p) w wr) (ho : wr.ownsRow w.heap.size e size u n xs) (hg : wr.grownBy w2 u.ownBlock) : Chg (fun b => b = p) w w2 :=
  Chg.below_base (fun b => b = p) hc hg (fun k hk => (ho.lt k hk).1)
theorem own_shape4 {w : World} {base : Nat} {e : TypeId} {size : Nat} {v : Value} {n : Nat} {xs : List Value} (h : w.ownsRow base e size v n xs) : ∃ a c, v = .slice a n c := by
  obtain ⟨h1, h2⟩ := h
  rcases h2 with ⟨rfl, rfl⟩ | ⟨g, cap, cur, hv, _⟩
  · exact ⟨_, _, rfl⟩
  · exact ⟨_, _, hv⟩
theorem own_addr4 {w : World} {base n : Nat} {e : TypeId} {v : Value} {xs : List Value} (h : w.ownsRow base e 1 v n xs) (hn : 0 < n) : ∃ g c, v = .slice (some ⟨g, 0, none⟩) n c ∧ base ≤ g ∧ n ≤ c ∧ c ≤ 9223372036854775807 := by
  obtain ⟨h1, h2⟩ := h
  rcases h2 with ⟨_, h0⟩ | ⟨g, cap, cur, rfl, hg, _, r1, r2, _⟩
  · omega
  · exact ⟨g, cap, rfl, hg, r1, r2⟩
def lenOf : Value → Nat | .slice _ n _ => n | _ => 0
namespace Lg
/-- What is read at a place; 0 at the end. -/
def nxt (l : List (BitVec 8)) (k : Nat) : BitVec 64 := if k < 1024 then num l (4 * k) 4 else 0#64
def nsL (l : List (BitVec 8)) : Nat := (nsRd l).length
theorem nxt_lt (l : List (BitVec 8)) (k : Nat) (h : k < 1024) : nxt l k = num l (4 * k) 4 := by unfold nxt; rw [if_pos h]
theorem nxt_ne (l : List (BitVec 8)) (k : Nat) (h : k < nsL l) : nxt l k ≠ 0#64 := by
  have h1 := nsRd_le l
  rw [nxt_lt l k (by unfold nsL at h; omega)]
  intro h0
  exact (nsRd_get l k h).2 (by rw [h0]; rfl)
theorem nxt_end (l : List (BitVec 8)) (hl : l.length = 4096) : nxt l (nsL l) = 0#64 := by
  unfold nxt
  by_cases h : nsL l < 1024
  · rw [if_pos h]
    have h0 := nsRd_end l h
    have h2 := num_back32 l (4 * nsL l) (by omega)
    unfold nsL at h2 ⊢
    rw [← h2, h0]; rfl
  · rw [if_neg h]
theorem nsN_nx (l : List (BitVec 8)) (k : Nat) (h : k < 1024) : nsN l (k + 1) = nsN l k ++ [(nxt l k).setWidth 32] := by rw [nsN_more, nxt_lt l k h]
theorem nsRd_eq (l : List (BitVec 8)) : nsRd l = nsN l (nsL l) := nsRd_N l
theorem nsL_le (l : List (BitVec 8)) : nsL l ≤ 1024 := nsRd_le l
theorem nsF (l : List (BitVec 8)) : nsFine l = (risB 0#32 (nsN l (nsL l)) && allZ (l.drop (4 * nsL l))) := by
  unfold nsFine nsL; rw [← nsRd_N]
end Lg
set_option maxHeartbeats 3200000 in
set_option maxRecDepth 20000 in
theorem readN_at {d : Nat} (p : Nat) (v : Value) (l : List (BitVec 8)) (w : World) (hp : RdAt w 165 p d v l 0) (hl : l.length = 4096) :
    Calls Tryz.prog 51 #[.pointer (some ⟨p, 0, none⟩)] w fun e w' => ∃ u, e = .returned u ∧ w'.ownsRow w.heap.size 42 1 u (nsRd l).length (wh (nsRd l)) ∧ Chg (fun b => b = p) w w' := by
  have NE := Lib.hid (nxt_ne l)
  have NEND := Lib.hid (nxt_end l hl)
  have NNX := Lib.hid (nsN_nx l)
  have NLT := Lib.hid (nxt_lt l)
  have NGE := Lib.hid (show nxt l 1024 = 0#64 from if_neg (by decide))
  have NRD := Lib.hid (nsRd_eq l)
  have NLE := Lib.hid (nsL_le l)
  obtain ⟨X, hX⟩ : ∃ X, nxt l = X := ⟨_, rfl⟩
  obtain ⟨n, hn⟩ : ∃ n, nsL l = n := ⟨_, rfl⟩
  rw [hX] at NE NEND NNX NLT NGE
  rw [hn] at NE NEND NRD NLE
  have HL := Lib.hid hl
  have PLT := Lib.hid hp.lt
  have R0 := Lib.hid (show RdAt w 165 p d v (l.drop 0) 0 by rw [List.drop_zero]; exact hp)
  clear hX hn hl hp
  go_enter Tryz.func51, Tryz.ntmps51
  go_upto_region 2 with (go_at_call 35; go_loud (refine (next_at p v l 0 0 4 4 (X 0) w rfl R0.out (by decide) (by decide) (by rw [HL.out]; decide) (NLT.out 0 (by decide)).symm).mono ?_; rintro r w1 ⟨rfl, ⟨v1, hr⟩, hc⟩; have R1 := Lib.hid hr; have C1 := Lib.hid hc; clear hr hc))
  go_loopw [2, 3] (fun u i wr => ∃ k : Nat, k ≤ n ∧ i = .int .u64 (uv (X k)) ∧ wr.ownsRow w.heap.size 42 1 u k (wh (nsN l k)) ∧ (k < 1024 → ∃ vk, RdAt wr 165 p d vk (l.drop (4 + 4 * k)) (4 + 4 * k)) ∧ Chg (fun b => b = p) w wr) (fun u _ _ => n - (lenOf u))
  case atStart => exact ⟨0, by omega, rfl, World.ownsRow_nil _ _ _ _, fun _ => ⟨_, R1.out⟩, C1.out⟩
  case round =>
    obtain ⟨k, hk, rfl, ho, hr, hb⟩ := hrel
    have O2 := Lib.hid ho; have R2 := Lib.hid hr; have C2 := Lib.hid hb; clear ho hr hb
    obtain ⟨x, hx⟩ : ∃ x, X k = x := ⟨_, rfl⟩
    have HX := Lib.hid hx
    rw [hx]
    obtain ⟨au, cu, hu⟩ := own_shape4 O2.out
    subst hu
    by_cases hlt : k < n
    · have hne : (uv x != 0) = true := by
        have h := NE.out k hlt
        rw [hx] at h
        have h2 := uv_pos x h
        exact bne_iff_ne.2 (by omega)
      have hk4 := NLE.out
      obtain ⟨vk, hrk⟩ := R2.out (by omega)
      have RK := Lib.hid hrk
      have ZM := Lib.hid (show nsN l (k + 1) = nsN l k ++ [x.setWidth 32] by rw [NNX.out k (by omega), hx])
      have HK4 := Lib.hid hk4
      clear hx hrk hk4 R2
      by_cases hend : k + 1 < 1024
      · obtain ⟨z, hz⟩ : ∃ z, X (k + 1) = z := ⟨_, rfl⟩
        have HZ := Lib.hid hz
        have HZN := Lib.hid ((NLT.out (k + 1) hend).symm.trans hz)
        have HEND := Lib.hid hend
        clear hz hend
        go_wp2_with (first
          | (at_builtin; refine app_w32 rfl (.tmp 10) (.tmp 13) rfl _ w.heap.size k (nsN l k) rfl O2.out C2.out.size (x.setWidth 32) _ rfl (by have := HK4.out; omega) ?_; intro v2 w4 ho hg; have O4 := Lib.hid ho; have C3 := Lib.hid (C2.out.trans (Chg.of_below (gr_alloc wr (.cells #[.int .u32 (uv (x.setWidth 32))] 42)))); have O3 := Lib.hid (own_below O2.out (gr_alloc wr (.cells #[.int .u32 (uv (x.setWidth 32))] 42))); have C4 := Lib.hid (chg_growN C3.out O3.out hg); have R4 := Lib.hid ((RK.out.below (gr_alloc wr (.cells #[.int .u32 (uv (x.setWidth 32))] 42))).base hg (own_gt O3.out PLT.out)); clear ho hg)
          | (go_at_call 35; go_loud (refine (next_at p vk l (4 + 4 * k) (4 + 4 * k) 4 4 z w4 rfl R4.out (by decide) (by decide) (by rw [HL.out]; have := HEND.out; omega) (by rw [show 4 + 4 * k = 4 * (k + 1) by omega]; exact HZN.out)).mono ?_; rintro r w5 ⟨rfl, ⟨v5, hr⟩, hc⟩; have R5 := Lib.hid hr; have C5 := Lib.hid (C4.out.trans hc); have O5 := Lib.hid (own_chg O4.out hc (fun k hk => by have h1 := (O4.out.lt k hk).1; have h2 := PLT.out; omega)); clear hr hc)))
        go_roundw
        case rel => exact ⟨k + 1, by omega, by rw [HZ.out], by rw [ZM.out]; exact O5.out, fun _ => ⟨_, by have h := R5.out; rwa [show 4 + 4 * k + 4 = 4 + 4 * (k + 1) by omega] at h⟩, C5.out⟩
        case measure =>
          obtain ⟨a5, c5, h5⟩ := own_shape4 O5.out
          rw [h5]
          show n - (k + 1) < n - k
          omega
      · have HK5 := Lib.hid (show k + 1 = 1024 by have := HK4.out; omega)
        clear hend
        go_wp2_with (first
          | (at_builtin; refine app_w32 rfl (.tmp 10) (.tmp 13) rfl _ w.heap.size k (nsN l k) rfl O2.out C2.out.size (x.setWidth 32) _ rfl (by have := HK4.out; omega) ?_; intro v2 w4 ho hg; have O4 := Lib.hid ho; have C3 := Lib.hid (C2.out.trans (Chg.of_below (gr_alloc wr (.cells #[.int .u32 (uv (x.setWidth 32))] 42)))); have O3 := Lib.hid (own_below O2.out (gr_alloc wr (.cells #[.int .u32 (uv (x.setWidth 32))] 42))); have C4 := Lib.hid (chg_growN C3.out O3.out hg); have R4 := Lib.hid ((RK.out.below (gr_alloc wr (.cells #[.int .u32 (uv (x.setWidth 32))] 42))).base hg (own_gt O3.out PLT.out)); clear ho hg)
          | (go_at_call 35; go_loud (refine (next_no p vk _ _ 4 4 w4 rfl R4.out (by decide) (by decide) (by rw [List.length_drop, HL.out]; have := HK5.out; omega)).mono ?_; rintro r w5 ⟨rfl, hw⟩; have C5 := Lib.hid (C4.out.trans (Chg.of_below hw)); have O5 := Lib.hid (own_below O4.out hw); clear hw)))
        go_roundw
        case rel => exact ⟨k + 1, by omega, by rw [HK5.out, NGE.out]; rfl, by rw [ZM.out]; exact O5.out, fun h => absurd h (by have := HK5.out; omega), C5.out⟩
        case measure =>
          obtain ⟨a5, c5, h5⟩ := own_shape4 O5.out
          rw [h5]
          show n - (k + 1) < n - k
          omega
    · obtain rfl : k = n := by omega
      have hne : (uv x != 0) = false := by rw [← hx, NEND.out]; rfl
      clear hx
      go_wp2
      go_ret
      exact ⟨_, rfl, by rw [NRD.out, nsN_len]; exact O2.out, C2.out⟩
set_option maxHeartbeats 3200000 in
set_option maxRecDepth 20000 in
theorem decoded_N (l : List (BitVec 8)) (bv : Value) (w : World) (y : List (BitVec 32)) (e : Int) (hb : BytesV w bv l) (hl : l.length ≤ 140737488355328) (hd : decP 4096 nsRd nsOkB [] l = (y, e)) :
    Calls Tryz.prog 50 #[bv, .int .i64 4096, .func (.func 51) #[] #[], .func (.func 17) #[] #[]] w fun r w' => ∃ u, r = .returned (.tuple #[u, .int .i64 e]) ∧ SliceV w' (fun y : BitVec 32 => [Value.int .u32 (uv y)]) u y ∧ Below w.heap.size w w' := by
  obtain ⟨av, cv, rfl, hv0, hv1, hv2, hv3⟩ := id hb
  have hm : l.length ≤ 9223372036854775807 := by omega
  have BV := Lib.hid hb
  have HLL := Lib.hid hl
  clear hb hv0 hv1 hv2 hv3 hl
  unfold decP at hd
  by_cases p1 : l.length < 4096
  · rw [if_pos p1] at hd
    cases hd
    have d1 : decide ((l.length : Int) < 4096) = true := decide_eq_true (by omega)
    have d1b : decide (l.length < 4096) = true := decide_eq_true (by omega)
    clear p1
    go_enter Tryz.func50, Tryz.ntmps50
    go_wp2
    go_ret2
    exact ⟨_, rfl, SliceV.nil0 _, Below.refl _ _⟩
  rw [if_neg p1] at hd
  have d1 : decide ((l.length : Int) < 4096) = false := decide_eq_false (by omega)
  have d1b : decide (l.length < 4096) = false := decide_eq_false (by omega)
  by_cases p2 : 4096 < l.length
  · rw [if_pos p2] at hd
    cases hd
    have d2 : decide (4096 < (l.length : Int)) = true := decide_eq_true (by omega)
    have d2b : decide (4096 < l.length) = true := decide_eq_true (by omega)
    clear p1 p2
    go_enter Tryz.func50, Tryz.ntmps50
    go_wp2
    go_ret2
    exact ⟨_, rfl, SliceV.nil0 _, Below.refl _ _⟩
  rw [if_neg p2] at hd
  have d2 : decide (4096 < (l.length : Int)) = false := decide_eq_false (by omega)
  have d2b : decide (4096 < l.length) = false := decide_eq_false (by omega)
  have HL := Lib.hid (show l.length = 4096 by omega)
  have HD := Lib.hid hd
  clear p1 p2 hd
  obtain ⟨x, hx⟩ : ∃ x, nsRd l = x := ⟨_, rfl⟩
  have HXL := Lib.hid (show x.length ≤ 1000000 by rw [← hx]; have := nsRd_le l; omega)
  have HX := Lib.hid hx
  clear hx
  obtain ⟨bo, hbo⟩ : ∃ b, nsOkL x = b := ⟨_, rfl⟩
  have HO := Lib.hid hbo; clear hbo
  go_enter Tryz.func50, Tryz.ntmps50
  go_upto_region 6 with (first
    | (go_at_call 70; go_loud (refine (NewReader_any _ l w BV.out HLL.out).mono ?_; rintro r w1 ⟨p, v, rfl, hp, hr, hw⟩; have HP := Lib.hid hp; have R1 := Lib.hid hr; have D1 := Lib.hid hw; clear hp hr hw))
    | (go_at_call 51; go_loud (refine (readN_at p v l _ R1.out HL.out).mono ?_; rw [HX.out]; rintro r w2 ⟨u, rfl, ho, hc⟩; have D2 := Lib.hid (hc.fresh D1.out (fun k hk => by have h1 := HP.out; subst hk; omega)); have S2 := Lib.hid (SliceV.of_w32 ho); clear ho hc)))
  clear d1 d1b d2 d2b
  have B2 := Lib.hid (BV.out.below D2.out)
  cases bo
  · have EC := fun w h => EncN_at u x 2 [] w h HXL.out (by unfold nsEL; rw [HO.out]; rfl) (by unfold nsRL; rw [HO.out]; rfl)
    go_wp2_with (go_at_call 17; go_loud (refine (EC _ S2.out).mono ?_; rintro r w4 ⟨u4, rfl, hu, hw⟩; have D4 := Lib.hid (gr_tr D2.out hw); clear hu hw))
    obtain ⟨e1, e2⟩ : y = [] ∧ e = 6 := by
      have h := HD.out
      unfold nsOkB at h
      rw [HX.out, HO.out] at h
      simp at h
      first | exact ⟨h.1.symm, h.2.symm⟩ | exact ⟨h.1, h.2.symm⟩
    rw [e1, e2]
    go_ret2
    exact ⟨_, rfl, SliceV.nil0 _, D4.out⟩
  have EC := fun w h => EncN_at u x 0 (nsBL x) w h HXL.out (by unfold nsEL; rw [HO.out]; rfl) (by unfold nsRL; rw [HO.out]; rfl)
  obtain ⟨bq, hbq⟩ : ∃ b, (nsBL x == l) = b := ⟨_, rfl⟩
  have HQ := Lib.hid hbq; clear hbq
  obtain ⟨NB, hNB⟩ : ∃ B, nsBL x = B := ⟨_, rfl⟩
  rw [hNB] at EC
  have HQN := Lib.hid (show (NB == l) = bq by rw [← hNB]; exact HQ.out)
  clear hNB
  cases bq
  · go_wp2_with (first
      | (go_at_call 17; go_loud (refine (EC _ S2.out).mono ?_; rintro r w4 ⟨u4, rfl, hu, hw⟩; have U := Lib.hid (hu); have B4 := Lib.hid (B2.out.below hw); have D4 := Lib.hid (gr_tr D2.out hw); clear hu hw))
      | (go_at_call 71; go_loud (refine (eqB_at _ _ _ _ _ _ U.out B4.out HQN.out).mono ?_; rintro r w5 ⟨rfl, rfl⟩)))
    obtain ⟨e1, e2⟩ : y = [] ∧ e = 6 := by
      have h := HD.out
      unfold nsOkB at h
      rw [HX.out, HO.out, HQ.out] at h
      simp at h
      first | exact ⟨h.1.symm, h.2.symm⟩ | exact ⟨h.1, h.2.symm⟩
    rw [e1, e2]
    go_ret2
    exact ⟨_, rfl, SliceV.nil0 _, D4.out⟩
  · go_wp2_with (first
      | (go_at_call 17; go_loud (refine (EC _ S2.out).mono ?_; rintro r w4 ⟨u4, rfl, hu, hw⟩; have U := Lib.hid (hu); have B4 := Lib.hid (B2.out.below hw); have S4 := Lib.hid (S2.out.below hw); have D4 := Lib.hid (gr_tr D2.out hw); clear hu hw))
      | (go_at_call 71; go_loud (refine (eqB_at _ _ _ _ _ _ U.out B4.out HQN.out).mono ?_; rintro r w5 ⟨rfl, rfl⟩)))
    obtain ⟨e1, e2⟩ : y = x ∧ e = 0 := by
      have h := HD.out
      unfold nsOkB at h
      rw [HX.out, HO.out, HQ.out] at h
      simp at h
      first | exact ⟨h.1.symm, h.2.symm⟩ | exact ⟨h.1, h.2.symm⟩
    rw [e1, e2]
    go_ret2
    exact ⟨_, rfl, S4.out, D4.out⟩
set_option maxHeartbeats 1600000 in
set_option maxRecDepth 20000 in
theorem Decode_N (l : List (BitVec 8)) (bv : Value) (w : World) (y : List (BitVec 32)) (e : Int) (hb : BytesV w bv l) (hl : l.length ≤ 140737488355328) (hd : decP 4096 nsRd nsOkB [] l = (y, e)) :
    Calls Tryz.prog 18 #[bv] w fun r w' => ∃ u, r = .returned (.tuple #[u, .int .i64 e]) ∧ SliceV w' (fun y : BitVec 32 => [Value.int .u32 (uv y)]) u y ∧ Below w.heap.size w w' := by
  have BV := Lib.hid hb; have HL := Lib.hid hl; have HD := Lib.hid hd
  clear hb hl hd
  go_enter Tryz.func18, Tryz.ntmps18
  go_wp2_with (go_at_call 50; go_loud (refine (decoded_N l _ _ y e BV.out HL.out HD.out).mono ?_; rintro r w3 ⟨u, rfl, hs, hw⟩; have S3 := Lib.hid hs; have D3 := Lib.hid hw; clear hs hw))
  go_ret2
  exact ⟨_, rfl, S3.out, D3.out⟩
end Go.Proofs.YthnnopjakpjoeaaGreatDoor
namespace Go.Proofs.YthnnopjakpjoeaaGreatDoor
open Go.RowKit Lg
set_option linter.unusedVariables false
set_option linter.unusedSimpArgs false
theorem run_from1 (g o n c : Nat) (h2 : 2 ≤ n) (hnc : n ≤ c) (hc : c ≤ 9223372036854775807) (w' : World) :
    (Instr.slice 51 (.slice (some ⟨g, o, none⟩) n c) (some (.int .i64 1)) none none).run Tryz.prog w' = .ok (.slice (some ⟨g, o + 1, none⟩) (n - 1) (c - 1)) w' := by
  have ht : Tryz.prog.underlying 51 = some (.slice 38) := Tryz.underlying51
  have he : Tryz.prog.elem 51 = 38 := by simp [Program.elem, ht]
  have ht' : Tryz.prog.underlying 51 = some (.slice (Tryz.prog.elem 51)) := by rw [he]; exact ht
  have hs : (Tryz.prog.info? 38).map (·.size) = some 1 := by kernel_rfl
  have hz : (sizeOf (Tryz.prog.elem 51)).run Tryz.prog w' = .ok 1 w' := by
    rw [he]
    obtain ⟨i, hi, hi'⟩ := Option.map_eq_some_iff.1 hs
    simp [sizeOf, typeInfo, hi, hi']
  have h := run_slice_l w' 51 (some ⟨g, o, none⟩) n c ht' .i64 ((1 : Nat) : Int) (by omega) (by omega)
  rw [hz] at h
  refine Eq.trans h ?_
  simp only [Result.andThen, sliced, Option.map_some, Nat.mul_one, Addr.add_lit, Int.toNat_natCast]
  rw [if_neg (by omega)]
theorem Lg.zoRis_le1 (l : List (BitVec 64)) (h : l.length ≤ 1) : zoRis l = true := by
  match l, h with
  | [], _ => rfl
  | [x], _ => rfl
theorem rising_q (v : Value) (l : List (BitVec 64)) (a : BitVec 64) (b : Bool) (w : World) (k : Nat) (hv : SliceV (w.drewN k) (fun y : BitVec 64 => [Value.int .u64 (uv y)]) v l) (hl : l.length ≤ 1000000) (hb : risB a l = b) :
    Calls Tryz.prog 52 #[v, .int .u64 (uv a)] (w.drewN k) fun e w' => e = .returned (.bool b) ∧ ∃ m, w' = w.drewN m :=
  Calls.quiet_of_same ((rising_u64 v l a b _ hv hl hb).mono fun _ _ h => ⟨h.1, h.2.symm⟩)
set_option maxRecDepth 20000 in
set_option maxHeartbeats 3200000 in
theorem EncZ_at (v : Value) (l : List (BitVec 64)) (e : Int) (B : List (BitVec 8)) (w : World) (hv : SliceV w (fun y : BitVec 64 => [Value.int .u64 (uv y)]) v l) (hl : l.length ≤ 1000000) (he : zoEL l = e) (hB : zoRL l = B) :
    Calls Tryz.prog 19 #[v] w fun r w' => ∃ u, r = .returned (.tuple #[u, .int .i64 e]) ∧ w'.ownsRow w.heap.size 5 1 u B.length (by8 B) ∧ Below w.heap.size w w' := by
  have HL := Lib.hid hl
  obtain ⟨ad, c, rfl, h0, h1, h2, h3⟩ := hv
  have ROW := Lib.hid (show Row w ad (wd l) by rw [flat1] at h3; exact h3)
  have hm : (l.length : Int) ≤ 9223372036854775807 := by omega
  have HC := Lib.hid (show l.length ≤ c ∧ c ≤ 9223372036854775807 from ⟨h1, h2⟩)
  unfold zoEL at he
  unfold zoRL at hB
  have HE := Lib.hid he; have HB := Lib.hid hB
  obtain ⟨ok, hok⟩ : ∃ b, zoOkL l = b := ⟨_, rfl⟩
  have HOK := Lib.hid hok
  clear h0 h1 h2 h3 he hB hok hl
  go_enter Tryz.func19, Tryz.ntmps19
  go_upto_region 1 with (fail)
  go_cut [23] (fun s wx => s = .bool (!ok) ∧ Below w.heap.size w wx)
  case first =>
    by_cases c5 : 511 < l.length
    · have d1 : decide ((511 : Int) < l.length) = true := decide_eq_true (by omega)
      have d2 : decide (511 < l.length) = true := decide_eq_true c5
      obtain rfl : ok = false := by rw [← HOK.out]; unfold zoOkL; rw [decide_eq_false (by omega : ¬ l.length ≤ 511), Bool.false_and]
      clear c5
      go_quiet (fail)
      go_wp2
      go_meet
      exact ⟨rfl, gr_drewN w _⟩
    have d1 : decide ((511 : Int) < l.length) = false := decide_eq_false (by omega)
    have d2 : decide (511 < l.length) = false := decide_eq_false c5
    have ho : zoRis l = ok := by rw [← HOK.out]; unfold zoOkL; rw [decide_eq_true (by omega : l.length ≤ 511), Bool.true_and]
    clear c5
    by_cases c1 : 1 < l.length
    · have d3 : decide ((1 : Int) < l.length) = true := decide_eq_true (by omega)
      have d4 : decide (1 < l.length) = true := decide_eq_true c1
      · obtain ⟨x, r, hxr⟩ : ∃ x r, l = x :: r := by
          cases l with
          | nil => exact absurd c1 (by simp)
          | cons x r => exact ⟨x, r, rfl⟩
        have hxl : l.length = r.length + 1 := by rw [hxr]; rfl
        obtain ⟨g, o, rfl, c0⟩ := ROW.out.at (i := 0) (v := .int .u64 (uv x)) (by rw [hxr]; rfl)
        rw [Nat.add_zero] at c0
        have rs := run_from1 g o l.length c (by omega) HC.out.1 HC.out.2
        have hi : (0 : Int) < (l.length : Nat) := by omega
        have RR := Lib.hid (show ∀ k, SliceV (w.drewN k) (fun y : BitVec 64 => [Value.int .u64 (uv y)]) (.slice (some ⟨g, o + 1, none⟩) (l.length - 1) (c - 1)) r from fun k => ⟨_, _, by rw [hxl]; rfl, fun h => (by cases h), by have := HC.out.1; omega, by have := HC.out.2; omega, by
          rw [flat1]
          have h := (ROW.out.below (gr_drewN w k)).drop 1
          rw [hxr] at h
          exact h⟩)
        have HR := Lib.hid (show risB x r = ok by rw [← ho, hxr]; rfl)
        have q0 : ∀ n (y : KeepT nowhere (w.drewN n)), y.val.cell? ⟨g, o, none⟩ = some (.int .u64 (uv x)) := fun n y => y.cell (below_getU (gr_drewN w n) c0) id
        have HL2 := Lib.hid (show r.length ≤ 1000000 by have := HL.out; omega)
        clear hxr hxl
        clear ho c1
        go_quiet ((go_at_call 52; exact rising_q _ r x ok w _ (RR.out _) HL2.out HR.out))
        go_wp2
        go_meet
        exact ⟨rfl, gr_drewN w _⟩
    · have d3 : decide ((1 : Int) < l.length) = false := decide_eq_false (by omega)
      have d4 : decide (1 < l.length) = false := decide_eq_false c1
      obtain rfl : ok = true := by
        rw [← ho]
        exact zoRis_le1 l (by omega)
      clear c1 ho
      go_quiet (fail)
      go_wp2
      go_meet
      exact ⟨rfl, gr_drewN w _⟩
  case rest =>
    obtain ⟨rfl, hw⟩ := hcut
    obtain ⟨w5, hw5⟩ : ∃ x, x = wc := ⟨_, rfl⟩
    subst hw5
    have D5 := Lib.hid hw
    clear hw
    cases ok
    · have he := HE.out; have hB := HB.out
      rw [HOK.out] at he hB
      simp only [Bool.false_eq_true, if_false] at he hB
      subst he hB
      go_wp2
      go_ret2
      exact ⟨_, rfl, World.ownsRow_nil _ _ _ _, D5.out⟩
    have he := HE.out; have hB := HB.out
    rw [HOK.out] at he hB
    simp only [if_true] at he hB
    subst he
    have H5 := Lib.hid (show l.length ≤ 511 by have h := HOK.out; unfold zoOkL at h; simp at h; exact h.1)
    have HBB := Lib.hid hB
    clear hB HB HE HOK
    go_upto_region 4 with (first
      | (go_at_call 29; go_loud (refine (f_any _ 8 _).mono ?_; rintro r w1 ⟨rfl, hw⟩; have D1 := Lib.hid (gr_tr D5.out hw); clear hw)))
    have O := Lib.hid (show (w1.alloc (.cells #[.int .u64 (uv (BitVec.ofNat 64 l.length)), .int .i64 8] 81)).ownsRow w.heap.size 81 2 (.slice (some ⟨w1.heap.size, 0, none⟩) 1 1) 1 (fCells ((BitVec.ofNat 64 l.length, 8) :: fl64 (l.take 0))) by
      have h := World.ownsRow_lit (base := w.heap.size) (size := 2) (e := 81) w1 #[.int .u64 (uv (BitVec.ofNat 64 l.length)), .int .i64 8] 1 (by have := D1.out.size; exact this) (by decide) rfl
      have e : (#[.int .u64 (uv (BitVec.ofNat 64 l.length)), .int .i64 8] : Array Value).toList = fCells ((BitVec.ofNat 64 l.length, 8) :: fl64 (l.take 0)) := by
        rfl
      rw [← e]; exact h)
    have C := Lib.hid (gr_tr D1.out (gr_alloc w1 (.cells #[.int .u64 (uv (BitVec.ofNat 64 l.length)), .int .i64 8] 81)))
    obtain ⟨V, hV⟩ : ∃ V, w1.alloc (.cells #[.int .u64 (uv (BitVec.ofNat 64 l.length)), .int .i64 8] 81) = V := ⟨_, rfl⟩
    rw [hV] at O C ⊢
    clear hV
    go_upto_region 5 with (fail)
    go_loopw [4, 31] (fun u i wr => ∃ k : Nat, k ≤ l.length ∧ i = .int .i64 k ∧ wr.ownsRow w.heap.size 81 2 u (1 + k) (fCells ((BitVec.ofNat 64 l.length, 8) :: fl64 (l.take k))) ∧ Below w.heap.size w wr) (fun _ i _ => l.length - (intOf i).toNat)
    case atStart => exact ⟨0, by omega, rfl, O.out, C.out⟩
    case round =>
      obtain ⟨k, hk, rfl, ho, hb⟩ := hrel
      have O1 := Lib.hid ho; have D2 := Lib.hid hb; clear ho hb
      by_cases hlt : k < l.length
      · obtain ⟨y, hy⟩ : ∃ y, l[k]? = some y := ⟨_, List.getElem?_eq_getElem hlt⟩
        obtain ⟨g, o, rfl, c0⟩ := (ROW.out.below D2.out).at (i := k) (v := .int .u64 (uv y)) (by unfold wd; rw [List.getElem?_map, hy]; rfl)
        have HS := Lib.hid (show (BitVec.ofNat 64 l.length, (8 : Int)) :: fl64 (l.take (k + 1)) = ((BitVec.ofNat 64 l.length, 8) :: fl64 (l.take k)) ++ [(y, 8)] by
          obtain ⟨h5, rfl⟩ := List.getElem?_eq_some_iff.1 hy
          rw [List.take_succ_eq_append_getElem h5, fl64_snoc]; rfl)
        clear hy
        go_wp2_with (first
          | (go_at_call 29; go_loud (refine (f_any _ 8 _).mono ?_; rintro r w3 ⟨rfl, hw⟩; have D3 := Lib.hid (gr_tr D2.out hw); have O3 := Lib.hid (own_below O1.out hw); clear hw))
          | (at_builtin; refine app_field rfl (.tmp 35) (.tmp 38) rfl _ w.heap.size (1 + k) ((BitVec.ofNat 64 l.length, 8) :: fl64 (l.take k)) rfl O3.out D3.out.size (y, 8) _ rfl (by have := H5.out; omega) ?_; intro v2 w4 ho hb; have O4 := Lib.hid ho; have D4 := Lib.hid (D3.out.trans hb); clear ho hb))
        go_roundw
        case rel => exact ⟨k + 1, by omega, by go_num, by rw [HS.out, ← Nat.add_assoc]; exact O4.out, D4.out⟩
        case measure => simp [intOf]; omega
      · obtain rfl : k = l.length := by omega
        have FV := Lib.hid (show FieldsV wr u4 (zoFl l) from FieldsV.own (by unfold zoFl; rw [List.length_cons, fl64_n, Nat.add_comm]) (by have := O1.out; rwa [List.take_length] at this))
        go_wp2_with (go_at_call 28; go_loud (refine (page_any 4096 4096 _ (zoFl l) B _ rfl FV.out (by have := H5.out; unfold zoFl; rw [List.length_cons, fl64_n]; omega) (zo_e l) (by omega) (by rw [zo_cat]; have := H5.out; omega) HBB.out).mono ?_; rintro r w6 ⟨u6, rfl, ho, hw⟩; have V3 := Lib.hid (own_base ho D2.out.size); have D3 := Lib.hid (gr_tr D2.out hw); clear ho hw))
        go_ret2
        exact ⟨_, rfl, V3.out, D3.out⟩
theorem chg_grow {w wr w2 : World} {p : Nat} {e : TypeId} {size n : Nat} {u : Value} {xs : List Value} (hc : Chg (fun b => b = p) w wr) (ho : wr.ownsRow w.heap.size e size u n xs) (hg : wr.grownBy w2 u.ownBlock) : Chg (fun b => b = p) w w2 :=
  Chg.below_base (fun b => b = p) hc hg (fun k hk => (ho.lt k hk).1)
set_option maxHeartbeats 3200000 in
set_option maxRecDepth 20000 in
theorem readZ_at {d : Nat} (p : Nat) (v : Value) (l : List (BitVec 8)) (w : World) (hp : RdAt w 165 p d v l 0) (hl : l.length = 4096) :
    Calls Tryz.prog 54 #[.pointer (some ⟨p, 0, none⟩)] w fun e w' => ∃ u, e = .returned u ∧ w'.ownsRow w.heap.size 38 1 u (zoRd l).length (wd (zoRd l)) ∧ Chg (fun b => b = p) w w' := by
  obtain ⟨X, hX⟩ : ∃ x, num l 0 8 = x := ⟨_, rfl⟩
  obtain ⟨n, hn⟩ : ∃ n, zoN l = n := ⟨_, rfl⟩
  have hn5 : n ≤ 511 := by rw [← hn]; unfold zoN; omega
  have HM := Lib.hid (show min (uv X) 511 = (n : Int) by
    have : uv X = (X.toNat : Int) := rfl
    rw [this, ← hn, ← hX]; unfold zoN; omega)
  have H0 := Lib.hid hX
  have HL := Lib.hid hl
  have HN := Lib.hid hn
  have H5 := Lib.hid hn5
  have PLT := Lib.hid hp.lt
  have R0 := Lib.hid (show RdAt w 165 p d v (l.drop 0) 0 by rw [List.drop_zero]; exact hp)
  have hm := hp.lt
  clear hX hn hn5 hl hp hm
  go_enter Tryz.func54, Tryz.ntmps54
  go_upto_region 2 with (go_at_call 35; go_loud (refine (next_at p v l 0 0 8 8 X w rfl R0.out (by decide) (by decide) (by rw [HL.out]; decide) H0.out).mono ?_; rintro r w1 ⟨rfl, ⟨v1, hr⟩, hc⟩; have R1 := Lib.hid hr; have C1 := Lib.hid hc; clear hr hc))
  rw [HM.out]
  go_upto_region 3 with (fail)
  go_loopw [2, 8] (fun u i wr => ∃ k : Nat, k ≤ n ∧ i = .int .u64 k ∧ wr.ownsRow w.heap.size 38 1 u k (wd (zoL l k)) ∧ (∃ vk, RdAt wr 165 p d vk (l.drop (8 + 8 * k)) (8 + 8 * k)) ∧ Chg (fun b => b = p) w wr) (fun _ i _ => n - (intOf i).toNat)
  case atStart => exact ⟨0, by omega, rfl, World.ownsRow_nil _ _ _ _, ⟨_, R1.out⟩, C1.out⟩
  case round =>
    obtain ⟨k, hk, rfl, ho, ⟨vk, hr⟩, hb⟩ := hrel
    have O2 := Lib.hid ho; have R2 := Lib.hid hr; have C2 := Lib.hid hb; clear ho hr hb
    by_cases hlt : k < n
    · obtain ⟨x, hx⟩ : ∃ x, num l (8 + 8 * k) 8 = x := ⟨_, rfl⟩
      have HX := Lib.hid hx
      have ZM := Lib.hid (show zoL l (k + 1) = zoL l k ++ [x] by rw [zoL_more, hx])
      clear hx
      have hk1 : (k : Int) ≤ 511 := by have := H5.out; omega
      have UK := Lib.hid (show uv (BitVec.ofNat 64 k + 1#64) = (k : Int) + 1 by
        show ((BitVec.ofNat 64 k + 1#64).toNat : Int) = _
        rw [BitVec.toNat_add, BitVec.toNat_ofNat, Nat.mod_eq_of_lt (by omega : k < 2 ^ 64)]
        show (((k + 1) % 2 ^ 64 : Nat) : Int) = _
        rw [Nat.mod_eq_of_lt (by omega)]; omega)
      go_wp2_with (first
        | (go_at_call 35; go_loud (refine (next_at p vk l (8 + 8 * k) (8 + 8 * k) 8 8 x wr rfl R2.out (by decide) (by decide) (by rw [HL.out]; have := H5.out; omega) HX.out).mono ?_; rintro r w3 ⟨rfl, ⟨v3, hr⟩, hc⟩; have R3 := Lib.hid hr; have C3 := Lib.hid (C2.out.trans hc); have O3 := Lib.hid (own_chg O2.out hc (fun k hk => by have h1 := (O2.out.lt k hk).1; have h2 := PLT.out; omega)); clear hr hc))
        | (at_builtin; refine app_word rfl (.tmp 10) (.tmp 13) rfl _ w.heap.size k (zoL l k) rfl (own_below O3.out (gr_alloc w3 _)) (Nat.le_trans C3.out.size (gr_alloc w3 _).size) w3.heap.size x rfl (heap_alloc_new w3 _) (by have := H5.out; omega) ?_; intro v2 w4 ho hg hv2; have O4 := Lib.hid ho; have Z4 := Lib.hid (each_step (C3.out.trans (Chg.of_below (gr_alloc w3 (.cells #[.int .u64 (uv x)] 38)))) (Chg.refl _ _) (own_below O3.out (gr_alloc w3 (.cells #[.int .u64 (uv x)] 38))) (R3.out.below (gr_alloc w3 (.cells #[.int .u64 (uv x)] 38))) PLT.out hg); clear ho hg hv2))
      go_roundw
      case rel => exact ⟨k + 1, by omega, by rw [UK.out]; go_num, by rw [ZM.out]; exact O4.out, ⟨_, by have h := Z4.out.1; rwa [show 8 + 8 * k + 8 = 8 + 8 * (k + 1) by omega] at h⟩, Z4.out.2⟩
      case measure => simp [intOf, UK.out]; omega
    · obtain rfl : k = n := by omega
      go_wp2
      go_ret
      exact ⟨_, rfl, by unfold zoRd; rw [zoL_len, HN.out]; exact O2.out, C2.out⟩
set_option maxHeartbeats 3200000 in
set_option maxRecDepth 20000 in
theorem decoded_Z (l : List (BitVec 8)) (bv : Value) (w : World) (y : List (BitVec 64)) (e : Int) (hb : BytesV w bv l) (hl : l.length ≤ 140737488355328) (hd : decP 4096 zoRd zoOkB [] l = (y, e)) :
    Calls Tryz.prog 53 #[bv, .int .i64 4096, .func (.func 54) #[] #[], .func (.func 19) #[] #[]] w fun r w' => ∃ u, r = .returned (.tuple #[u, .int .i64 e]) ∧ SliceV w' (fun y : BitVec 64 => [Value.int .u64 (uv y)]) u y ∧ Below w.heap.size w w' := by
  obtain ⟨av, cv, rfl, hv0, hv1, hv2, hv3⟩ := id hb
  have hm : l.length ≤ 9223372036854775807 := by omega
  have BV := Lib.hid hb
  have HLL := Lib.hid hl
  clear hb hv0 hv1 hv2 hv3 hl
  unfold decP at hd
  by_cases p1 : l.length < 4096
  · rw [if_pos p1] at hd
    cases hd
    have d1 : decide ((l.length : Int) < 4096) = true := decide_eq_true (by omega)
    have d1b : decide (l.length < 4096) = true := decide_eq_true (by omega)
    clear p1
    go_enter Tryz.func53, Tryz.ntmps53
    go_wp2
    go_ret2
    exact ⟨_, rfl, SliceV.nil0 _, Below.refl _ _⟩
  rw [if_neg p1] at hd
  have d1 : decide ((l.length : Int) < 4096) = false := decide_eq_false (by omega)
  have d1b : decide (l.length < 4096) = false := decide_eq_false (by omega)
  by_cases p2 : 4096 < l.length
  · rw [if_pos p2] at hd
    cases hd
    have d2 : decide (4096 < (l.length : Int)) = true := decide_eq_true (by omega)
    have d2b : decide (4096 < l.length) = true := decide_eq_true (by omega)
    clear p1 p2
    go_enter Tryz.func53, Tryz.ntmps53
    go_wp2
    go_ret2
    exact ⟨_, rfl, SliceV.nil0 _, Below.refl _ _⟩
  rw [if_neg p2] at hd
  have d2 : decide (4096 < (l.length : Int)) = false := decide_eq_false (by omega)
  have d2b : decide (4096 < l.length) = false := decide_eq_false (by omega)
  have HL := Lib.hid (show l.length = 4096 by omega)
  have HD := Lib.hid hd
  clear p1 p2 hd
  obtain ⟨x, hx⟩ : ∃ x, zoRd l = x := ⟨_, rfl⟩
  have HXL := Lib.hid (show x.length ≤ 1000000 by rw [← hx]; unfold zoRd; rw [zoL_len]; unfold zoN; omega)
  have HX := Lib.hid hx
  clear hx
  obtain ⟨bo, hbo⟩ : ∃ b, zoOkL x = b := ⟨_, rfl⟩
  have HO := Lib.hid hbo; clear hbo
  go_enter Tryz.func53, Tryz.ntmps53
  go_upto_region 6 with (first
    | (go_at_call 70; go_loud (refine (NewReader_any _ l w BV.out HLL.out).mono ?_; rintro r w1 ⟨p, v, rfl, hp, hr, hw⟩; have HP := Lib.hid hp; have R1 := Lib.hid hr; have D1 := Lib.hid hw; clear hp hr hw))
    | (go_at_call 54; go_loud (refine (readZ_at p v l _ R1.out HL.out).mono ?_; rw [HX.out]; rintro r w2 ⟨u, rfl, ho, hc⟩; have D2 := Lib.hid (hc.fresh D1.out (fun k hk => by have h1 := HP.out; subst hk; omega)); have S2 := Lib.hid (SliceV.of_wd ho); clear ho hc)))
  clear d1 d1b d2 d2b
  have B2 := Lib.hid (BV.out.below D2.out)
  cases bo
  · have EC := fun w h => EncZ_at u x 2 [] w h HXL.out (by unfold zoEL; rw [HO.out]; rfl) (by unfold zoRL; rw [HO.out]; rfl)
    go_wp2_with (go_at_call 19; go_loud (refine (EC _ S2.out).mono ?_; rintro r w4 ⟨u4, rfl, hu, hw⟩; have D4 := Lib.hid (gr_tr D2.out hw); clear hu hw))
    obtain ⟨e1, e2⟩ : y = [] ∧ e = 6 := by
      have h := HD.out
      unfold zoOkB at h
      rw [HX.out, HO.out] at h
      simp at h
      first | exact ⟨h.1.symm, h.2.symm⟩ | exact ⟨h.1, h.2.symm⟩
    rw [e1, e2]
    go_ret2
    exact ⟨_, rfl, SliceV.nil0 _, D4.out⟩
  have EC := fun w h => EncZ_at u x 0 (zoBL x) w h HXL.out (by unfold zoEL; rw [HO.out]; rfl) (by unfold zoRL; rw [HO.out]; rfl)
  obtain ⟨bq, hbq⟩ : ∃ b, (zoBL x == l) = b := ⟨_, rfl⟩
  have HQ := Lib.hid hbq; clear hbq
  obtain ⟨NB, hNB⟩ : ∃ B, zoBL x = B := ⟨_, rfl⟩
  rw [hNB] at EC
  have HQN := Lib.hid (show (NB == l) = bq by rw [← hNB]; exact HQ.out)
  clear hNB
  cases bq
  · go_wp2_with (first
      | (go_at_call 19; go_loud (refine (EC _ S2.out).mono ?_; rintro r w4 ⟨u4, rfl, hu, hw⟩; have U := Lib.hid (BytesV.of_own hu); have B4 := Lib.hid (B2.out.below hw); have D4 := Lib.hid (gr_tr D2.out hw); clear hu hw))
      | (go_at_call 71; go_loud (refine (eqB_at _ _ _ _ _ _ U.out B4.out HQN.out).mono ?_; rintro r w5 ⟨rfl, rfl⟩)))
    obtain ⟨e1, e2⟩ : y = [] ∧ e = 6 := by
      have h := HD.out
      unfold zoOkB at h
      rw [HX.out, HO.out, HQ.out] at h
      simp at h
      first | exact ⟨h.1.symm, h.2.symm⟩ | exact ⟨h.1, h.2.symm⟩
    rw [e1, e2]
    go_ret2
    exact ⟨_, rfl, SliceV.nil0 _, D4.out⟩
  · go_wp2_with (first
      | (go_at_call 19; go_loud (refine (EC _ S2.out).mono ?_; rintro r w4 ⟨u4, rfl, hu, hw⟩; have U := Lib.hid (BytesV.of_own hu); have B4 := Lib.hid (B2.out.below hw); have S4 := Lib.hid (S2.out.below hw); have D4 := Lib.hid (gr_tr D2.out hw); clear hu hw))
      | (go_at_call 71; go_loud (refine (eqB_at _ _ _ _ _ _ U.out B4.out HQN.out).mono ?_; rintro r w5 ⟨rfl, rfl⟩)))
    obtain ⟨e1, e2⟩ : y = x ∧ e = 0 := by
      have h := HD.out
      unfold zoOkB at h
      rw [HX.out, HO.out, HQ.out] at h
      simp at h
      first | exact ⟨h.1.symm, h.2.symm⟩ | exact ⟨h.1, h.2.symm⟩
    rw [e1, e2]
    go_ret2
    exact ⟨_, rfl, S4.out, D4.out⟩
set_option maxHeartbeats 1600000 in
set_option maxRecDepth 20000 in
theorem Decode_Z (l : List (BitVec 8)) (bv : Value) (w : World) (y : List (BitVec 64)) (e : Int) (hb : BytesV w bv l) (hl : l.length ≤ 140737488355328) (hd : decP 4096 zoRd zoOkB [] l = (y, e)) :
    Calls Tryz.prog 20 #[bv] w fun r w' => ∃ u, r = .returned (.tuple #[u, .int .i64 e]) ∧ SliceV w' (fun y : BitVec 64 => [Value.int .u64 (uv y)]) u y ∧ Below w.heap.size w w' := by
  have BV := Lib.hid hb; have HL := Lib.hid hl; have HD := Lib.hid hd
  clear hb hl hd
  go_enter Tryz.func20, Tryz.ntmps20
  go_wp2_with (go_at_call 53; go_loud (refine (decoded_Z l _ _ y e BV.out HL.out HD.out).mono ?_; rintro r w3 ⟨u, rfl, hs, hw⟩; have S3 := Lib.hid hs; have D3 := Lib.hid hw; clear hs hw))
  go_ret2
  exact ⟨_, rfl, S3.out, D3.out⟩
end Go.Proofs.YthnnopjakpjoeaaGreatDoor
namespace Go.Proofs.YthnnopjakpjoeaaGreatDoor
open Go.RowKit Lg
set_option linter.unusedVariables false
set_option linter.unusedSimpArgs false
theorem rd_chg {w w' : World} {T : TypeId} {r d Y : Nat} {v : Value} {l : List (BitVec 8)} {n : Nat} (h : RdAt w T r d v l n) (c : Chg (fun b => b = Y) w w') (hY : r < Y) : RdAt w' T r d v l n :=
  ⟨c.blk h.blk (by omega), h.bytes.chg c (fun g o m k e hg => by have h1 := h.old ⟨g, o, none⟩ m k e; have h2 := h.le; simp only at h1; omega), h.small, h.old, h.le⟩
theorem byt_lt3 {w : World} {v : Value} {l : List (BitVec 8)} (h : BytesV w v l) (hl : 0 < l.length) : ∀ g o n c, v = .slice (some ⟨g, o, none⟩) n c → g < w.heap.size := by
  intro g o n c e
  obtain ⟨a, c', e2, -, -, -, hr⟩ := h
  rw [e] at e2
  injection e2 with e3 e4 e5
  subst e3
  exact hr.lt (by intro hn; have h9 := congrArg List.length hn; rw [by8_length, List.length_nil] at h9; omega)
theorem st_typ (s : BitVec 64) (h : s.toNat < 65536) : BitVec.setWidth 8 (s >>> 9 &&& 7#64) = (stR s).typ := by
  apply BitVec.eq_of_toNat_eq
  unfold stR
  rw [BitVec.toNat_setWidth, BitVec.toNat_and, BitVec.toNat_ushiftRight, Nat.shiftRight_eq_div_pow, BitVec.toNat_ofNat]
  show (s.toNat / 2 ^ 9 &&& 7) % 2 ^ 8 = _
  rw [show (7 : Nat) = 2 ^ 3 - 1 from rfl, Nat.and_two_pow_sub_one_eq_mod]
  dsimp only
  rw [BitVec.toNat_ofNat]
theorem st_code (s : BitVec 64) (h : s.toNat < 65536) : BitVec.setWidth 8 (s >>> 1) = (stR s).code := by
  apply BitVec.eq_of_toNat_eq
  unfold stR
  rw [BitVec.toNat_setWidth, BitVec.toNat_ushiftRight, Nat.shiftRight_eq_div_pow, BitVec.toNat_ofNat]
  omega
theorem uv_one (z : BitVec 64) : (uv z == 1) = decide (z.toNat = 1) := by
  have : uv z = (z.toNat : Int) := rfl
  rw [Bool.eq_iff_iff, beq_iff_eq, decide_eq_true_eq, this]; omega
theorem st_more (s : BitVec 64) (h : s.toNat < 65536) : (uv (s >>> 14 &&& 1#64) == 1) = (stR s).more := by
  rw [uv_one]
  unfold stR
  dsimp only
  have h1 : (s >>> 14 &&& 1#64).toNat = s.toNat / 16384 % 2 := by
    rw [BitVec.toNat_and, BitVec.toNat_ushiftRight, Nat.shiftRight_eq_div_pow]
    show s.toNat / 2 ^ 14 &&& 1 = _
    rw [Nat.and_one_is_mod]
  rw [h1]
theorem st_never (s : BitVec 64) (h : s.toNat < 65536) : (uv (s >>> 15) == 1) = (stR s).never := by
  rw [uv_one]
  unfold stR
  dsimp only
  rw [BitVec.toNat_ushiftRight, Nat.shiftRight_eq_div_pow]
set_option maxHeartbeats 3200000 in
set_option maxRecDepth 20000 in
theorem readEr_at {d : Nat} (p : Nat) (v : Value) (l : List (BitVec 8)) (w : World) (hp : RdAt w 165 p d v l 0) (hl : l.length = 64) :
    Calls Tryz.prog 43 #[.pointer (some ⟨p, 0, none⟩)] w fun e w' => e = .returned (.agg (Er.cells (erRd l)).toArray) ∧ Chg (fun b => b = p) w w' := by
  obtain ⟨x0, h0⟩ : ∃ x, num l 0 8 = x := ⟨_, rfl⟩
  obtain ⟨x1, h1⟩ : ∃ x, num l 8 2 = x := ⟨_, rfl⟩
  obtain ⟨x2, h2⟩ : ∃ x, num l 10 2 = x := ⟨_, rfl⟩
  obtain ⟨x3, h3⟩ : ∃ x, num l 12 2 = x := ⟨_, rfl⟩
  obtain ⟨x4, h4⟩ : ∃ x, num l 14 2 = x := ⟨_, rfl⟩
  obtain ⟨x5, h5⟩ : ∃ x, num l 16 8 = x := ⟨_, rfl⟩
  obtain ⟨x6, h6⟩ : ∃ x, num l 24 4 = x := ⟨_, rfl⟩
  obtain ⟨x7, h7⟩ : ∃ x, num l 32 8 = x := ⟨_, rfl⟩
  rw [show (Er.cells (erRd l)).toArray = #[.int .u64 (uv x0), .int .u16 (uv (x1.setWidth 16)), .int .u16 (uv (x2.setWidth 16)), .int .u8 (uv (stR x3).typ), .int .u8 (uv (stR x3).code), .bool (stR x3).more, .bool (stR x3).never, .int .u16 (uv (x4.setWidth 16)), .int .u64 (uv x5), .int .u32 (uv (x6.setWidth 32)), .int .u64 (uv x7)] by unfold erRd; rw [h0, h1, h2, h3, h4, h5, h6, h7]; rfl]
  have HS := Lib.hid (show x3.toNat < 65536 by rw [← h3]; exact num_lt l 12 2 (by omega) (by decide))
  have H0 := Lib.hid h0; have H1 := Lib.hid h1; have H2 := Lib.hid h2; have H3 := Lib.hid h3; have H4 := Lib.hid h4; have H5 := Lib.hid h5; have H6 := Lib.hid h6; have H7 := Lib.hid h7; have HL := Lib.hid hl
  have PLT := Lib.hid hp.lt
  obtain ⟨w0, hW⟩ : ∃ W, W = w.alloc (.cells #[.int .u64 0, .int .u16 0, .int .u16 0, .int .u8 0, .int .u8 0, .bool false, .bool false, .int .u16 0, .int .u64 0, .int .u32 0, .int .u64 0] 44) := ⟨_, rfl⟩
  have D := Lib.hid (show Below w.heap.size w w0 by rw [hW]; exact gr_alloc w _)
  have X0 := Lib.hid (show w0.heap[w.heap.size]? = some (.cells #[.int .u64 0, .int .u16 0, .int .u16 0, .int .u8 0, .int .u8 0, .bool false, .bool false, .int .u16 0, .int .u64 0, .int .u32 0, .int .u64 0] 44 (0, 0)) by rw [hW]; exact heap_alloc_new w _)
  have R0 := Lib.hid (show RdAt w0 165 p d v (l.drop 0) 0 by rw [List.drop_zero]; exact hp.below D.out)
  have NP := Lib.hid (show ¬ w.heap.size = p by have := PLT.out; omega)
  obtain ⟨v0, hv0⟩ : ∃ u, u = v := ⟨_, rfl⟩
  rw [← hv0] at R0
  have HW := Lib.hid hW
  clear h0 h1 h2 h3 h4 h5 h6 h7 hl hp hW hv0
  go_enter Tryz.func43, Tryz.ntmps43
  go_upto_region 1 with (fail)
  rw [← HW.out]
  have C0 := Lib.hid (Chg.of_below (B := fun b => b = p) D.out)
  go_upto_region 2 with (first
    | (go_at_call 35; go_loud ((with_reducible refine (next_at p v0 l 0 0 8 8 x0 w0 rfl R0.out (by decide) (by decide) (by rw [HL.out]; decide) H0.out).mono ?_); rintro r w1 ⟨rfl, ⟨v1, hr⟩, hc⟩; have R1 := Lib.hid hr; have C1 := Lib.hid (C0.out.trans hc); have X1 := Lib.hid (hc.blk X0.out NP.out); clear hr hc))
    | (go_at_call 35; go_loud ((with_reducible refine (next_at p v1 l 8 8 2 2 x1 w1 rfl R1.out (by decide) (by decide) (by rw [HL.out]; decide) H1.out).mono ?_); rintro r w2 ⟨rfl, ⟨v2, hr⟩, hc⟩; have R2 := Lib.hid hr; have C2 := Lib.hid (C1.out.trans hc); have X2 := Lib.hid (hc.blk X1.out NP.out); clear hr hc))
    | (go_at_call 35; go_loud ((with_reducible refine (next_at p v2 l 10 10 2 2 x2 w2 rfl R2.out (by decide) (by decide) (by rw [HL.out]; decide) H2.out).mono ?_); rintro r w3 ⟨rfl, ⟨v3, hr⟩, hc⟩; have R3 := Lib.hid hr; have C3 := Lib.hid (C2.out.trans hc); have X3 := Lib.hid (hc.blk X2.out NP.out); clear hr hc))
    | (refine wpList_store_new rfl 44 (.tmp 3) (.tmp 13) rfl #[.int .u64 (uv x0), .int .u16 (uv (x1.setWidth 16)), .int .u16 (uv (x2.setWidth 16)), .int .u8 0, .int .u8 0, .bool false, .bool false, .int .u16 0, .int .u64 0, .int .u32 0, .int .u64 0] 44 _ rfl rfl (by kernel_rfl) rfl (by simp [Value.oneCell']) ?_; intro w4 hh hb; have Y4 := Lib.hid hh; have R4 := Lib.hid (R3.out.below hb); have C4 := Lib.hid (C3.out.trans (Chg.of_below (B := fun b => b = p) hb)); have X4 := Lib.hid (blk_below X3.out hb); clear hh hb))
  obtain ⟨v4, hv4⟩ : ∃ u, u = v3 := ⟨_, rfl⟩
  rw [← hv4] at R4
  clear hv4
  obtain ⟨Y, hY⟩ : ∃ Y, w3.heap.size = Y := ⟨_, rfl⟩
  have NE := Lib.hid (show ¬ Y = p ∧ ¬ w.heap.size = Y ∧ w.heap.size ≤ Y ∧ p < Y by
    have h1 := PLT.out; have h2 := C3.out.size; have h3 := (Array.getElem?_eq_some_iff.1 X3.out).1; omega)
  rw [hY] at Y4 ⊢
  clear hY
  go_upto_region 3 with (go_at_call 35; go_loud ((with_reducible refine (next_at p v4 l 12 12 2 2 x3 w4 rfl R4.out (by decide) (by decide) (by rw [HL.out]; decide) H3.out).mono ?_); rintro r w5 ⟨rfl, ⟨v5, hr⟩, hc⟩; have R5 := Lib.hid hr; have C5 := Lib.hid (C4.out.trans hc); have X5 := Lib.hid (hc.blk X4.out NP.out); have Y5 := Lib.hid (hc.blk Y4.out NE.out.1); clear hr hc))
  have e1 := st_typ x3 HS.out; have e2 := st_code x3 HS.out; have e3 := st_more x3 HS.out; have e4 := st_never x3 HS.out
  have TH := Lib.hid (show w5.there Y 3 4 from fun j hj => by
    refine ⟨?_, frozen_of_row _ _ _ _ _ Y5.out⟩
    rw [cell_of_row _ _ _ _ _ _ Y5.out]
    match j, hj with
    | 0, _ => rfl
    | 1, _ => rfl
    | 2, _ => rfl
    | 3, _ => rfl)
  go_upto_region 4 with (refine wpList_store_mid rfl 41 (.tmp 31) (.tmp 30) rfl Y 3 #[.int .u8 (uv (stR x3).typ), .int .u8 (uv (stR x3).code), .bool (stR x3).more, .bool (stR x3).never] rfl rfl TH.out (by kernel_rfl) (by simp [Value.oneCell']) ?_)
  obtain ⟨w6, hw6⟩ : ∃ w6, w6 = w5.setCells Y 3 [.int .u8 (uv (stR x3).typ), .int .u8 (uv (stR x3).code), .bool (stR x3).more, .bool (stR x3).never] := ⟨_, rfl⟩
  have c6 : Chg (fun b => b = Y) w5 w6 := by
    rw [hw6]
    exact (((Chg.setCell (B := fun b => b = Y) (p := ⟨Y, 3, none⟩) _ rfl _).trans (Chg.setCell (B := fun b => b = Y) (p := ⟨Y, 4, none⟩) _ rfl _)).trans (Chg.setCell (B := fun b => b = Y) (p := ⟨Y, 5, none⟩) _ rfl _)).trans (Chg.setCell (B := fun b => b = Y) (p := ⟨Y, 6, none⟩) _ rfl _)
  have Y6 := Lib.hid (show w6.heap[Y]? = some (.cells #[.int .u64 (uv x0), .int .u16 (uv (x1.setWidth 16)), .int .u16 (uv (x2.setWidth 16)), .int .u8 (uv (stR x3).typ), .int .u8 (uv (stR x3).code), .bool (stR x3).more, .bool (stR x3).never, .int .u16 0, .int .u64 0, .int .u32 0, .int .u64 0] 44 (0, 0)) by
    rw [hw6]; exact heap_setCell_same _ _ _ _ _ _ (heap_setCell_same _ _ _ _ _ _ (heap_setCell_same _ _ _ _ _ _ (heap_setCell_same _ _ _ _ _ _ Y5.out))))
  have X6 := Lib.hid (c6.blk X5.out NE.out.2.1)
  have C6 := Lib.hid (chg_newer C5.out c6 (fun g hg => by subst hg; exact NE.out.2.2.1))
  have R6 := Lib.hid (rd_chg R5.out c6 NE.out.2.2.2)
  obtain ⟨v6, hv6⟩ : ∃ u, u = v5 := ⟨_, rfl⟩
  rw [← hv6] at R6
  rw [← hw6]
  clear hw6 c6 hv6 e1 e2 e3 e4
  go_upto_region 5 with (first
    | (go_at_call 35; go_loud ((with_reducible refine (next_at p v6 l 14 14 2 2 x4 w6 rfl R6.out (by decide) (by decide) (by rw [HL.out]; decide) H4.out).mono ?_); rintro r w7 ⟨rfl, ⟨v7, hr⟩, hc⟩; have R7 := Lib.hid hr; have C7 := Lib.hid (C6.out.trans hc); have X7 := Lib.hid (hc.blk X6.out NP.out); have Y7 := Lib.hid (hc.blk Y6.out NE.out.1); clear hr hc))
    | (go_at_call 35; go_loud ((with_reducible refine (next_at p v7 l 16 16 8 8 x5 w7 rfl R7.out (by decide) (by decide) (by rw [HL.out]; decide) H5.out).mono ?_); rintro r w8 ⟨rfl, ⟨v8, hr⟩, hc⟩; have R8 := Lib.hid hr; have C8 := Lib.hid (C7.out.trans hc); have X8 := Lib.hid (hc.blk X7.out NP.out); have Y8 := Lib.hid (hc.blk Y7.out NE.out.1); clear hr hc))
    | (go_at_call 35; go_loud ((with_reducible refine (next_at p v8 l 24 24 4 4 x6 w8 rfl R8.out (by decide) (by decide) (by rw [HL.out]; decide) H6.out).mono ?_); rintro r w9 ⟨rfl, ⟨v9, hr⟩, hc⟩; have R9 := Lib.hid hr; have C9 := Lib.hid (C8.out.trans hc); have X9 := Lib.hid (hc.blk X8.out NP.out); have Y9 := Lib.hid (hc.blk Y8.out NE.out.1); have y7 : w9.cell? ⟨Y, 7, none⟩ = some (.int .u16 0) := (cell_of_row _ _ 7 _ _ _ Y9.out).trans rfl; have y8 : w9.cell? ⟨Y, 8, none⟩ = some (.int .u64 0) := (cell_of_row _ _ 8 _ _ _ Y9.out).trans rfl; have y9 : w9.cell? ⟨Y, 9, none⟩ = some (.int .u32 0) := (cell_of_row _ _ 9 _ _ _ Y9.out).trans rfl; have f7 := frozen_of_row _ _ 7 _ _ Y9.out; have f8 := frozen_of_row _ _ 8 _ _ Y9.out; have f9 := frozen_of_row _ _ 9 _ _ Y9.out; clear hr hc)))
  obtain ⟨wa, hwa⟩ : ∃ wa, wa = ((w9.setCell ⟨Y, 7, none⟩ (.int .u16 (uv (x4.setWidth 16)))).setCell ⟨Y, 8, none⟩ (.int .u64 (uv x5))).setCell ⟨Y, 9, none⟩ (.int .u32 (uv (x6.setWidth 32))) := ⟨_, rfl⟩
  have ca : Chg (fun b => b = Y) w9 wa := by
    rw [hwa]
    exact ((Chg.setCell (B := fun b => b = Y) (p := ⟨Y, 7, none⟩) _ rfl _).trans (Chg.setCell (B := fun b => b = Y) (p := ⟨Y, 8, none⟩) _ rfl _)).trans (Chg.setCell (B := fun b => b = Y) (p := ⟨Y, 9, none⟩) _ rfl _)
  have Ya := Lib.hid (show wa.heap[Y]? = some (.cells #[.int .u64 (uv x0), .int .u16 (uv (x1.setWidth 16)), .int .u16 (uv (x2.setWidth 16)), .int .u8 (uv (stR x3).typ), .int .u8 (uv (stR x3).code), .bool (stR x3).more, .bool (stR x3).never, .int .u16 (uv (x4.setWidth 16)), .int .u64 (uv x5), .int .u32 (uv (x6.setWidth 32)), .int .u64 0] 44 (0, 0)) by
    rw [hwa]; exact heap_setCell_same _ _ _ _ _ _ (heap_setCell_same _ _ _ _ _ _ (heap_setCell_same _ _ _ _ _ _ Y9.out)))
  have Xa := Lib.hid (ca.blk X9.out NE.out.2.1)
  have Ca := Lib.hid (chg_newer C9.out ca (fun g hg => by subst hg; exact NE.out.2.2.1))
  have Ra := Lib.hid (rd_chg R9.out ca NE.out.2.2.2)
  rw [← hwa]
  clear hwa ca y7 y8 y9 f7 f8 f9
  go_upto_region 6 with (go_at_call 36; go_loud (refine (skip_at p v9 l 28 28 4 4 wa rfl Ra.out (by rw [HL.out]; decide)).mono ?_; rintro r wb ⟨rfl, ⟨vb, hr⟩, hc⟩; have Rb := Lib.hid hr; have Cb := Lib.hid (Ca.out.trans hc); have Xb := Lib.hid (hc.blk Xa.out NP.out); have Yb := Lib.hid (hc.blk Ya.out NE.out.1); clear hr hc))
  go_upto_region 7 with (go_at_call 35; go_loud (refine (next_at p vb l 32 32 8 8 x7 wb rfl Rb.out (by decide) (by decide) (by rw [HL.out]; decide) H7.out).mono ?_; rintro r wc ⟨rfl, -, hc⟩; have Cc := Lib.hid (Cb.out.trans hc); have Xc := Lib.hid (hc.blk Xb.out NP.out); have Yc := Lib.hid (hc.blk Yb.out NE.out.1); have yc : wc.cell? ⟨Y, 10, none⟩ = some (.int .u64 0) := (cell_of_row _ _ 10 _ _ _ Yc.out).trans rfl; have fc := frozen_of_row _ _ 10 _ _ Yc.out; clear hc))
  obtain ⟨wd, hwd⟩ : ∃ wd, wd = wc.setCell ⟨Y, 10, none⟩ (.int .u64 (uv x7)) := ⟨_, rfl⟩
  have cd : Chg (fun b => b = Y) wc wd := by rw [hwd]; exact Chg.setCell (B := fun b => b = Y) (p := ⟨Y, 10, none⟩) _ rfl _
  have Yd := Lib.hid (show wd.heap[Y]? = some (.cells #[.int .u64 (uv x0), .int .u16 (uv (x1.setWidth 16)), .int .u16 (uv (x2.setWidth 16)), .int .u8 (uv (stR x3).typ), .int .u8 (uv (stR x3).code), .bool (stR x3).more, .bool (stR x3).never, .int .u16 (uv (x4.setWidth 16)), .int .u64 (uv x5), .int .u32 (uv (x6.setWidth 32)), .int .u64 (uv x7)] 44 (0, 0)) by rw [hwd]; exact heap_setCell_same _ _ _ _ _ _ Yc.out)
  have Xd := Lib.hid (cd.blk Xc.out NE.out.2.1)
  have Cd := Lib.hid (chg_newer Cc.out cd (fun g hg => by subst hg; exact NE.out.2.2.1))
  rw [← hwd]
  clear hwd cd yc fc
  go_wp2_with (first
    | (refine wpList_load_row rfl 44 (.tmp 3) rfl Y rfl 44 #[.int .u64 (uv x0), .int .u16 (uv (x1.setWidth 16)), .int .u16 (uv (x2.setWidth 16)), .int .u8 (uv (stR x3).typ), .int .u8 (uv (stR x3).code), .bool (stR x3).more, .bool (stR x3).never, .int .u16 (uv (x4.setWidth 16)), .int .u64 (uv x5), .int .u32 (uv (x6.setWidth 32)), .int .u64 (uv x7)] (0, 0) _ Yd.out Tryz.underlying44 rfl (by kernel_rfl) ?_)
    | (refine wpList_store_row rfl 44 (.tmp 2) (.tmp 48) rfl w.heap.size #[.int .u64 (uv x0), .int .u16 (uv (x1.setWidth 16)), .int .u16 (uv (x2.setWidth 16)), .int .u8 (uv (stR x3).typ), .int .u8 (uv (stR x3).code), .bool (stR x3).more, .bool (stR x3).never, .int .u16 (uv (x4.setWidth 16)), .int .u64 (uv x5), .int .u32 (uv (x6.setWidth 32)), .int .u64 (uv x7)] rfl rfl 44 _ Xd.out (by kernel_rfl) rfl (by simp [Value.oneCell']) ?_))
  exact bodyPost_ret (results_cell_row rfl _ _ w.heap.size 44 _ (0, 0) _ rfl (setRow_heap _ _ _ _ _ _ Xd.out) Tryz.underlying44 rfl (by kernel_rfl)) rfl ⟨rfl, chg_newer Cd.out (Chg.setRow (B := fun b => b = w.heap.size) wd rfl _) (fun g hg => by subst hg; exact Nat.le_refl _)⟩
namespace Lg
def erOkB (l : List (BitVec 8)) : Bool := erOk (erRd l) && (erB (erRd l) == l)
end Lg
set_option maxHeartbeats 3200000 in
set_option maxRecDepth 20000 in
theorem decoded_Er (l : List (BitVec 8)) (bv : Value) (w : World) (y : Er) (e : Int) (hb : BytesV w bv l) (hl : l.length ≤ 140737488355328) (hd : decP 64 erRd erOkB erZ l = (y, e)) :
    Calls Tryz.prog 42 #[bv, .int .i64 64, .func (.func 43) #[] #[], .func (.func 11) #[] #[]] w fun r w' => r = .returned (.tuple #[.agg (Er.cells y).toArray, .int .i64 e]) ∧ Below w.heap.size w w' := by
  obtain ⟨av, cv, rfl, hv0, hv1, hv2, hv3⟩ := id hb
  have hm : l.length ≤ 9223372036854775807 := by omega
  have BV := Lib.hid hb
  have HLL := Lib.hid hl
  obtain ⟨V, hV⟩ : ∃ V, V = w.alloc (.cells #[.int .u64 0, .int .u16 0, .int .u16 0, .int .u8 0, .int .u8 0, .bool false, .bool false, .int .u16 0, .int .u64 0, .int .u32 0, .int .u64 0] 44) := ⟨_, rfl⟩
  have DV := Lib.hid (show Below w.heap.size w V by rw [hV]; exact gr_alloc w _)
  have XV := Lib.hid (show V.heap[w.heap.size]? = some (.cells #[.int .u64 0, .int .u16 0, .int .u16 0, .int .u8 0, .int .u8 0, .bool false, .bool false, .int .u16 0, .int .u64 0, .int .u32 0, .int .u64 0] 44 (0, 0)) by rw [hV]; exact heap_alloc_new w _)
  have VS := Lib.hid (show w.heap.size < V.heap.size by rw [hV]; simp)
  have HV := Lib.hid hV
  have ZS := Lib.hid (show (Er.cells erZ).toArray = #[.int .u64 0, .int .u16 0, .int .u16 0, .int .u8 0, .int .u8 0, .bool false, .bool false, .int .u16 0, .int .u64 0, .int .u32 0, .int .u64 0] from rfl)
  clear hb hv0 hv1 hv2 hv3 hV hl
  unfold decP at hd
  by_cases p1 : l.length < 64
  · rw [if_pos p1] at hd
    cases hd
    rw [ZS.out]
    have d1 : decide ((l.length : Int) < 64) = true := decide_eq_true (by omega)
    have d1b : decide (l.length < 64) = true := decide_eq_true (by omega)
    clear p1
    go_enter Tryz.func42, Tryz.ntmps42
    go_upto_region 1 with (fail)
    rw [← HV.out]
    go_wp2_with (first
      | (refine wpList_load_row rfl 44 (.tmp 8) rfl w.heap.size rfl 44 #[.int .u64 0, .int .u16 0, .int .u16 0, .int .u8 0, .int .u8 0, .bool false, .bool false, .int .u16 0, .int .u64 0, .int .u32 0, .int .u64 0] (0, 0) _ XV.out Tryz.underlying44 rfl (by kernel_rfl) ?_)
      | (refine wpList_store_row rfl 44 (.tmp 8) (.tmp 18) rfl w.heap.size #[.int .u64 0, .int .u16 0, .int .u16 0, .int .u8 0, .int .u8 0, .bool false, .bool false, .int .u16 0, .int .u64 0, .int .u32 0, .int .u64 0] rfl rfl 44 _ XV.out (by kernel_rfl) rfl (by simp [Value.oneCell']) ?_))
    exact bodyPost_ret (results_row_tmp rfl _ _ w.heap.size 44 #[.int .u64 0, .int .u16 0, .int .u16 0, .int .u8 0, .int .u8 0, .bool false, .bool false, .int .u16 0, .int .u64 0, .int .u32 0, .int .u64 0] (0, 0) _ rfl (setRow_heap _ _ _ _ _ _ XV.out) Tryz.underlying44 rfl (by kernel_rfl)) rfl ⟨rfl, below_setRow DV.out (Nat.le_refl _) _⟩
  rw [if_neg p1] at hd
  have d1 : decide ((l.length : Int) < 64) = false := decide_eq_false (by omega)
  have d1b : decide (l.length < 64) = false := decide_eq_false (by omega)
  by_cases p2 : 64 < l.length
  · rw [if_pos p2] at hd
    cases hd
    rw [ZS.out]
    have d2 : decide (64 < (l.length : Int)) = true := decide_eq_true (by omega)
    have d2b : decide (64 < l.length) = true := decide_eq_true (by omega)
    clear p1 p2
    go_enter Tryz.func42, Tryz.ntmps42
    go_upto_region 1 with (fail)
    rw [← HV.out]
    go_wp2_with (first
      | (refine wpList_load_row rfl 44 (.tmp 8) rfl w.heap.size rfl 44 #[.int .u64 0, .int .u16 0, .int .u16 0, .int .u8 0, .int .u8 0, .bool false, .bool false, .int .u16 0, .int .u64 0, .int .u32 0, .int .u64 0] (0, 0) _ XV.out Tryz.underlying44 rfl (by kernel_rfl) ?_)
      | (refine wpList_store_row rfl 44 (.tmp 8) (.tmp 24) rfl w.heap.size #[.int .u64 0, .int .u16 0, .int .u16 0, .int .u8 0, .int .u8 0, .bool false, .bool false, .int .u16 0, .int .u64 0, .int .u32 0, .int .u64 0] rfl rfl 44 _ XV.out (by kernel_rfl) rfl (by simp [Value.oneCell']) ?_))
    exact bodyPost_ret (results_row_tmp rfl _ _ w.heap.size 44 #[.int .u64 0, .int .u16 0, .int .u16 0, .int .u8 0, .int .u8 0, .bool false, .bool false, .int .u16 0, .int .u64 0, .int .u32 0, .int .u64 0] (0, 0) _ rfl (setRow_heap _ _ _ _ _ _ XV.out) Tryz.underlying44 rfl (by kernel_rfl)) rfl ⟨rfl, below_setRow DV.out (Nat.le_refl _) _⟩
  rw [if_neg p2] at hd
  have d2 : decide (64 < (l.length : Int)) = false := decide_eq_false (by omega)
  have d2b : decide (64 < l.length) = false := decide_eq_false (by omega)
  have HL := Lib.hid (show l.length = 64 by omega)
  have HD := Lib.hid hd
  clear p1 p2 hd
  obtain ⟨x, hx⟩ : ∃ x, erRd l = x := ⟨_, rfl⟩
  have HX := Lib.hid hx
  obtain ⟨cx, hcx⟩ : ∃ c, (Er.cells x).toArray = c := ⟨_, rfl⟩
  have HCX := Lib.hid hcx
  have SZX := Lib.hid (show cx.size = 11 by rw [← hcx]; rfl)
  have ONX := Lib.hid (show cx.all (·.oneCell') = true by rw [← hcx]; simp [Er.cells, St.cells, Value.oneCell'])
  clear hx hcx
  obtain ⟨bo, hbo⟩ : ∃ b, erOk x = b := ⟨_, rfl⟩
  have HO := Lib.hid hbo; clear hbo
  go_enter Tryz.func42, Tryz.ntmps42
  go_upto_region 1 with (fail)
  rw [← HV.out]
  go_upto_region 6 with (first
    | (go_at_call 70; go_loud (refine (NewReader_any _ l _ (BV.out.below DV.out) HLL.out).mono ?_; rintro r w1 ⟨p, v, rfl, hp, hr, hw⟩; have HP := Lib.hid hp; have R := Lib.hid hr; have D1 := Lib.hid (gr_tr DV.out hw); have DW := Lib.hid hw; clear hp hr hw))
    | (go_at_call 43; go_loud (refine (readEr_at p v l _ R.out HL.out).mono ?_; rw [HX.out, HCX.out]; rintro r w2 ⟨rfl, hc⟩; have D2 := Lib.hid (hc.fresh D1.out (fun k hk => by have h1 := HP.out; have h2 := VS.out; subst hk; omega)); have X2 := Lib.hid (hc.blk (blk_below XV.out DW.out) (fun hk => by have h1 := HP.out; have h2 := VS.out; subst hk; omega)); clear hc))
    | (refine wpList_store_new rfl 44 (.tmp 10) (.tmp 28) rfl cx 44 _ rfl rfl (by rw [SZX.out]; kernel_rfl) (by rw [SZX.out]; rfl) ONX.out ?_; intro w3 hh hw; have Y3 := Lib.hid hh; have D3 := Lib.hid (gr_tr D2.out hw); have X3 := Lib.hid (blk_below X2.out hw); clear hh hw))
  clear d1 d1b d2 d2b
  have B3 := Lib.hid (BV.out.below D3.out)
  cases bo
  · have ENC := fun w => EncEr_at x 2 [] w (by unfold erE; rw [HO.out]; rfl) (by unfold erR; rw [HO.out]; rfl)
    rw [HCX.out] at ENC
    go_wp2_with (first
      | (refine wpList_load_row rfl 44 (.tmp 10) rfl w2.heap.size rfl 44 cx (0, 0) _ Y3.out Tryz.underlying44 rfl (by rw [SZX.out]; kernel_rfl) ?_)
      | (go_at_call 11; go_loud (refine (ENC _).mono ?_; rintro r w4 ⟨u, rfl, hu, hw⟩; have D4 := Lib.hid (gr_tr D3.out hw); have X4 := Lib.hid (blk_below X3.out hw); clear hu hw))
      | (refine wpList_load_row rfl 44 (.tmp 8) rfl w.heap.size rfl 44 #[.int .u64 0, .int .u16 0, .int .u16 0, .int .u8 0, .int .u8 0, .bool false, .bool false, .int .u16 0, .int .u64 0, .int .u32 0, .int .u64 0] (0, 0) _ X4.out Tryz.underlying44 rfl (by kernel_rfl) ?_)
      | (refine wpList_store_row rfl 44 (.tmp 8) (.tmp 43) rfl w.heap.size #[.int .u64 0, .int .u16 0, .int .u16 0, .int .u8 0, .int .u8 0, .bool false, .bool false, .int .u16 0, .int .u64 0, .int .u32 0, .int .u64 0] rfl rfl 44 _ X4.out (by kernel_rfl) rfl (by simp [Value.oneCell']) ?_))
    obtain ⟨e1, e2⟩ : y = erZ ∧ e = 6 := by
      have h := HD.out
      unfold erOkB at h
      rw [HX.out, HO.out] at h
      simp at h
      exact ⟨h.1.symm, h.2.symm⟩
    rw [e1, e2, ZS.out]
    exact bodyPost_ret (results_row_tmp rfl _ _ w.heap.size 44 #[.int .u64 0, .int .u16 0, .int .u16 0, .int .u8 0, .int .u8 0, .bool false, .bool false, .int .u16 0, .int .u64 0, .int .u32 0, .int .u64 0] (0, 0) _ rfl (setRow_heap _ _ _ _ _ _ X4.out) Tryz.underlying44 rfl (by kernel_rfl)) rfl ⟨rfl, below_setRow D4.out (Nat.le_refl _) _⟩
  have ENC := fun w => EncEr_at x 0 (erB x) w (by unfold erE; rw [HO.out]; rfl) (by unfold erR; rw [HO.out]; rfl)
  rw [HCX.out] at ENC
  obtain ⟨bq, hbq⟩ : ∃ b, (erB x == l) = b := ⟨_, rfl⟩
  have HQ := Lib.hid hbq; clear hbq
  obtain ⟨NB, hNB⟩ : ∃ B, erB x = B := ⟨_, rfl⟩
  rw [hNB] at ENC
  have HNB := Lib.hid hNB
  clear hNB
  cases bq
  · have HQN := Lib.hid (show (NB == l) = false by rw [← HNB.out]; exact HQ.out)
    go_wp2_with (first
      | (refine wpList_load_row rfl 44 (.tmp 10) rfl w2.heap.size rfl 44 cx (0, 0) _ Y3.out Tryz.underlying44 rfl (by rw [SZX.out]; kernel_rfl) ?_)
      | (go_at_call 11; go_loud (refine (ENC _).mono ?_; rintro r w4 ⟨u, rfl, hu, hw⟩; have U := Lib.hid (BytesV.of_own hu); have B4 := Lib.hid (B3.out.below hw); have D4 := Lib.hid (gr_tr D3.out hw); have X4 := Lib.hid (blk_below X3.out hw); clear hu hw))
      | (go_at_call 71; go_loud (refine (eqB_at _ _ _ _ _ _ U.out B4.out HQN.out).mono ?_; rintro r w5 ⟨rfl, rfl⟩))
      | (refine wpList_load_row rfl 44 (.tmp 8) rfl w.heap.size rfl 44 #[.int .u64 0, .int .u16 0, .int .u16 0, .int .u8 0, .int .u8 0, .bool false, .bool false, .int .u16 0, .int .u64 0, .int .u32 0, .int .u64 0] (0, 0) _ X4.out Tryz.underlying44 rfl (by kernel_rfl) ?_)
      | (refine wpList_store_row rfl 44 (.tmp 8) (.tmp 43) rfl w.heap.size #[.int .u64 0, .int .u16 0, .int .u16 0, .int .u8 0, .int .u8 0, .bool false, .bool false, .int .u16 0, .int .u64 0, .int .u32 0, .int .u64 0] rfl rfl 44 _ X4.out (by kernel_rfl) rfl (by simp [Value.oneCell']) ?_))
    obtain ⟨e1, e2⟩ : y = erZ ∧ e = 6 := by
      have h := HD.out
      unfold erOkB at h
      rw [HX.out, HO.out, HQ.out] at h
      simp at h
      exact ⟨h.1.symm, h.2.symm⟩
    rw [e1, e2, ZS.out]
    exact bodyPost_ret (results_row_tmp rfl _ _ w.heap.size 44 #[.int .u64 0, .int .u16 0, .int .u16 0, .int .u8 0, .int .u8 0, .bool false, .bool false, .int .u16 0, .int .u64 0, .int .u32 0, .int .u64 0] (0, 0) _ rfl (setRow_heap _ _ _ _ _ _ X4.out) Tryz.underlying44 rfl (by kernel_rfl)) rfl ⟨rfl, below_setRow D4.out (Nat.le_refl _) _⟩
  · have HQN := Lib.hid (show (NB == l) = true by rw [← HNB.out]; exact HQ.out)
    go_wp2_with (first
      | (refine wpList_load_row rfl 44 (.tmp 10) rfl w2.heap.size rfl 44 cx (0, 0) _ Y3.out Tryz.underlying44 rfl (by rw [SZX.out]; kernel_rfl) ?_)
      | (go_at_call 11; go_loud (refine (ENC _).mono ?_; rintro r w4 ⟨u, rfl, hu, hw⟩; have U := Lib.hid (BytesV.of_own hu); have B4 := Lib.hid (B3.out.below hw); have D4 := Lib.hid (gr_tr D3.out hw); have X4 := Lib.hid (blk_below X3.out hw); have Y4 := Lib.hid (blk_below Y3.out hw); clear hu hw))
      | (go_at_call 71; go_loud (refine (eqB_at _ _ _ _ _ _ U.out B4.out HQN.out).mono ?_; rintro r w5 ⟨rfl, rfl⟩))
      | (refine wpList_load_row rfl 44 (.tmp 10) rfl w2.heap.size rfl 44 cx (0, 0) _ Y4.out Tryz.underlying44 rfl (by rw [SZX.out]; kernel_rfl) ?_)
      | (refine wpList_store_row rfl 44 (.tmp 8) (.tmp 44) rfl w.heap.size cx rfl rfl 44 _ X4.out (by rw [SZX.out]; kernel_rfl) (by rw [SZX.out]; rfl) ONX.out ?_))
    obtain ⟨e1, e2⟩ : y = x ∧ e = 0 := by
      have h := HD.out
      unfold erOkB at h
      rw [HX.out, HO.out, HQ.out] at h
      simp at h
      exact ⟨h.1.symm, h.2.symm⟩
    rw [e1, e2, HCX.out]
    exact bodyPost_ret (results_row_tmp rfl _ _ w.heap.size 44 cx (0, 0) _ rfl (setRow_heap _ _ _ _ _ _ X4.out) Tryz.underlying44 rfl (by rw [SZX.out]; kernel_rfl)) rfl ⟨rfl, below_setRow D4.out (Nat.le_refl _) _⟩
set_option maxHeartbeats 1600000 in
set_option maxRecDepth 20000 in
theorem Decode_Er (l : List (BitVec 8)) (bv : Value) (w : World) (y : Er) (e : Int) (hb : BytesV w bv l) (hl : l.length ≤ 140737488355328) (hd : decP 64 erRd erOkB erZ l = (y, e)) :
    Calls Tryz.prog 12 #[bv] w fun r w' => r = .returned (.tuple #[.agg (Er.cells y).toArray, .int .i64 e]) ∧ Below w.heap.size w w' := by
  have BV := Lib.hid hb; have HL := Lib.hid hl; have HD := Lib.hid hd
  obtain ⟨V, hV⟩ : ∃ V, V = w.alloc (.cells #[.int .u64 0, .int .u16 0, .int .u16 0, .int .u8 0, .int .u8 0, .bool false, .bool false, .int .u16 0, .int .u64 0, .int .u32 0, .int .u64 0] 44) := ⟨_, rfl⟩
  have DV := Lib.hid (show Below w.heap.size w V by rw [hV]; exact gr_alloc w _)
  have XV := Lib.hid (show V.heap[w.heap.size]? = some (.cells #[.int .u64 0, .int .u16 0, .int .u16 0, .int .u8 0, .int .u8 0, .bool false, .bool false, .int .u16 0, .int .u64 0, .int .u32 0, .int .u64 0] 44 (0, 0)) by rw [hV]; exact heap_alloc_new w _)
  have HV := Lib.hid hV
  obtain ⟨cy, hcy⟩ : ∃ c, (Er.cells y).toArray = c := ⟨_, rfl⟩
  have HCY := Lib.hid hcy
  have SZY := Lib.hid (show cy.size = 11 by rw [← hcy]; rfl)
  have ONY := Lib.hid (show cy.all (·.oneCell') = true by rw [← hcy]; simp [Er.cells, St.cells, Value.oneCell'])
  rw [hcy]
  clear hb hl hd hV hcy
  go_enter Tryz.func12, Tryz.ntmps12
  go_upto_region 1 with (fail)
  rw [← HV.out]
  go_wp2_with (first
    | (go_at_call 42; go_loud (refine (decoded_Er l _ _ y e (BV.out.below DV.out) HL.out HD.out).mono ?_; rw [HCY.out]; rintro r w3 ⟨rfl, hw⟩; have D3 := Lib.hid (gr_tr DV.out hw); have X3 := Lib.hid (blk_below XV.out hw); clear hw))
    | (refine wpList_store_row rfl 44 (.tmp 2) (.tmp 6) rfl w.heap.size cy rfl rfl 44 _ X3.out (by rw [SZY.out]; kernel_rfl) (by rw [SZY.out]; rfl) ONY.out ?_))
  exact bodyPost_ret (results_row_tmp rfl _ _ w.heap.size 44 cy (0, 0) _ rfl (setRow_heap _ _ _ _ _ _ X3.out) Tryz.underlying44 rfl (by rw [SZY.out]; kernel_rfl)) rfl ⟨rfl, below_setRow D3.out (Nat.le_refl _) _⟩
end Go.Proofs.YthnnopjakpjoeaaGreatDoor
namespace Go.Proofs.YthnnopjakpjoeaaGreatDoor
open Go.RowKit Lg
set_option linter.unusedVariables false
set_option linter.unusedSimpArgs false
namespace Lg
theorem decP_rt {α : Type} {n : Nat} {rd : List (BitVec 8) → α} {ok : List (BitVec 8) → Bool} {z x : α} {b : List (BitVec 8)} (hl : b.length = n) (hr : rd b = x) (ho : ok b = true) : decP n rd ok z b = (x, 0) := by
  unfold decP
  rw [if_neg (by omega), if_neg (by omega), if_pos ho, hr]
theorem decP_le {α : Type} {n : Nat} {rd : List (BitVec 8) → α} {ok : List (BitVec 8) → Bool} {z x : α} {b : List (BitVec 8)} (h : decP n rd ok z b = (x, 0)) : b.length = n := by
  unfold decP at h
  by_cases h1 : b.length < n
  · rw [if_pos h1] at h; injection h with _ h; cases h
  · rw [if_neg h1] at h
    by_cases h2 : n < b.length
    · rw [if_pos h2] at h; injection h with _ h; cases h
    · omega
theorem num_zeros (m a n : Nat) (h : a + n ≤ m) (h8 : n ≤ 8) : num (List.replicate m 0#8) a n = 0#64 := by
  apply BitVec.eq_of_toNat_eq
  refine (num_zero _ a n (by rw [List.length_replicate]; exact h) h8).2 ?_
  rw [allZ_iff, cut_len (by rw [List.length_replicate]; exact h)]
  unfold cut
  rw [List.drop_replicate, List.take_replicate, Nat.min_eq_left (by omega)]
theorem num_skip' (a b : List (BitVec 8)) (s n k : Nat) (h : k = a.length + s) : num (a ++ b) k n = num b s n := by rw [h]; exact num_skip a b s n
theorem fl32_take (l : List (BitVec 32)) (i : Nat) (h : i ≤ l.length) : sz ((fl32 l).take i) = 4 * i := by
  have : (fl32 l).take i = fl32 (l.take i) := by unfold fl32; rw [List.map_take]
  rw [this, fl32_sz, List.length_take, Nat.min_eq_left h]
theorem ns_num (l : List (BitVec 32)) (i : Nat) (x : BitVec 32) (h : l[i]? = some x) : num (nsBL l) (4 * i) 4 = x.setWidth 64 := by
  have hi := (List.getElem?_eq_some_iff.1 h).1
  have := num_field (fl32 l) (fl32_e l) (List.replicate (4096 - (Wire.cat (fl32 l)).length) 0#8) i (x.setWidth 64, 4) (by unfold fl32; rw [List.getElem?_map, h]; rfl)
  rw [fl32_take l i (by omega)] at this
  exact this
theorem ns_past (l : List (BitVec 32)) (hl : l.length ≤ 1024) (i : Nat) (h : l.length ≤ i) (hi : i < 1024) : num (nsBL l) (4 * i) 4 = 0#64 := by
  have hc := nsBL_cat l
  unfold nsBL pageB
  rw [num_skip' _ _ (4 * i - 4 * l.length) 4 (4 * i) (by rw [hc]; omega)]
  exact num_zeros _ _ _ (by rw [hc]; omega) (by decide)
theorem ris_ne (a : BitVec 32) (l : List (BitVec 32)) (h : risB a l = true) : ∀ x ∈ l, x ≠ 0#32 := by
  induction l generalizing a with
  | nil => intro x hx; cases hx
  | cons y l ih =>
    intro x hx
    unfold risB at h
    rw [Bool.and_eq_true, decide_eq_true_eq] at h
    rcases List.mem_cons.1 hx with rfl | h2
    · intro e
      rw [e] at h
      have h1 : uv (0#32) = 0 := rfl
      have h2 : 0 ≤ uv a := Int.natCast_nonneg _
      omega
    · exact ih y h.2 x h2
theorem takeWhile_app {α : Type} (p : α → Bool) (l m : List α) (hl : ∀ x ∈ l, p x = true) (hm : ∀ x, m.head? = some x → p x = false) : (l ++ m).takeWhile p = l := by
  induction l with
  | nil =>
    cases m with
    | nil => rfl
    | cons x m => rw [List.nil_append, List.takeWhile_cons, hm x rfl]; rfl
  | cons y l ih =>
    rw [List.cons_append, List.takeWhile_cons, hl y List.mem_cons_self, if_pos rfl, ih (fun x hx => hl x (List.mem_cons_of_mem _ hx))]
theorem ns_all (l : List (BitVec 32)) (hl : l.length ≤ 1024) : nsAll (nsBL l) = l ++ List.replicate (1024 - l.length) 0#32 := by
  apply List.ext_getElem?
  intro i
  by_cases hi : i < 1024
  · rw [nsAll_get _ i hi]
    by_cases h : i < l.length
    · obtain ⟨x, hx⟩ : ∃ x, l[i]? = some x := ⟨_, List.getElem?_eq_getElem h⟩
      rw [List.getElem?_append_left h, hx, ns_num l i x hx]
      refine congrArg some ?_
      apply BitVec.eq_of_toNat_eq
      rw [BitVec.toNat_setWidth, BitVec.toNat_setWidth]
      have := x.isLt
      omega
    · rw [List.getElem?_append_right (by omega), List.getElem?_replicate, if_pos (by omega), ns_past l hl i (by omega) hi]; rfl
  · rw [List.getElem?_eq_none (by rw [nsAll_len]; omega), List.getElem?_eq_none (by rw [List.length_append, List.length_replicate]; omega)]
theorem ns_rt (l : List (BitVec 32)) (h : nsOkL l = true) : decP 4096 nsRd nsOkB [] (nsBL l) = (l, 0) := by
  have h0 := h
  unfold nsOkL at h
  rw [Bool.and_eq_true, decide_eq_true_eq] at h
  have hr : nsRd (nsBL l) = l := by
    unfold nsRd
    rw [ns_all l h.1]
    refine takeWhile_app _ _ _ (fun x hx => bne_iff_ne.2 (ris_ne _ l h.2 x hx)) (fun x hx => ?_)
    have : x = 0#32 := by
      cases hq : 1024 - l.length with
      | zero => rw [hq] at hx; cases hx
      | succ m => rw [hq, List.replicate_succ] at hx; injection hx with hx; exact hx.symm
    rw [this]; rfl
  refine decP_rt (nsBL_len h.1) hr ?_
  unfold nsOkB
  rw [hr, h0, beq_self_eq_true]; rfl
theorem fl64_take (l : List (BitVec 64)) (i : Nat) (h : i ≤ l.length) : sz ((fl64 l).take i) = 8 * i := by
  have : (fl64 l).take i = fl64 (l.take i) := by unfold fl64; rw [List.map_take]
  rw [this, fl64_sz, List.length_take, Nat.min_eq_left h]
theorem zo_rt (l : List (BitVec 64)) (h : zoOkL l = true) : decP 4096 zoRd zoOkB [] (zoBL l) = (l, 0) := by
  have h0 := h
  unfold zoOkL at h
  rw [Bool.and_eq_true, decide_eq_true_eq] at h
  have h8 : num (zoBL l) 0 8 = BitVec.ofNat 64 l.length := num_field (zoFl l) (zo_e l) (List.replicate (4096 - (Wire.cat (zoFl l)).length) 0#8) 0 (BitVec.ofNat 64 l.length, 8) rfl
  have hn : zoN (zoBL l) = l.length := by
    unfold zoN
    rw [h8, BitVec.toNat_ofNat, Nat.mod_eq_of_lt (by omega)]; omega
  have hr : zoRd (zoBL l) = l := by
    unfold zoRd
    rw [hn]
    apply List.ext_getElem?
    intro i
    by_cases hi : i < l.length
    · obtain ⟨x, hx⟩ : ∃ x, l[i]? = some x := ⟨_, List.getElem?_eq_getElem hi⟩
      rw [zoL_get _ _ i hi, hx]
      have := num_field (zoFl l) (zo_e l) (List.replicate (4096 - (Wire.cat (zoFl l)).length) 0#8) (i + 1) (x, 8) (by unfold zoFl fl64; rw [List.getElem?_cons_succ, List.getElem?_map, hx]; rfl)
      have hs : sz ((zoFl l).take (i + 1)) = 8 + 8 * i := by
        unfold zoFl
        rw [List.take_succ_cons]
        show 8 + sz ((fl64 l).take i) = _
        rw [fl64_take l i (by omega)]
      rw [hs] at this
      exact congrArg some this
    · rw [List.getElem?_eq_none (by rw [zoL_len]; omega), List.getElem?_eq_none (by omega)]
  refine decP_rt (zoBL_len h.1) hr ?_
  unfold zoOkB
  rw [hr, h0, beq_self_eq_true]; rfl
theorem flat_cut (r : List (List (BitVec 8))) (hr : ∀ s ∈ r, (sltC s).length = 8) (A B : List (BitVec 8)) (i : Nat) (s : List (BitVec 8)) (h : r[i]? = some s) : cut (A ++ (r.flatMap sltC ++ B)) (A.length + 8 * i) 8 = sltC s := by
  induction r generalizing A i with
  | nil => cases h
  | cons x r ih =>
    have hx := hr x List.mem_cons_self
    cases i with
    | zero =>
      injection h with h
      subst h
      unfold cut
      rw [Nat.mul_zero, Nat.add_zero, List.drop_left, List.flatMap_cons, List.append_assoc]
      have := List.take_left (l₁ := sltC x) (l₂ := r.flatMap sltC ++ B)
      rw [hx] at this
      exact this
    | succ i =>
      rw [List.getElem?_cons_succ] at h
      have := ih (fun s hs => hr s (List.mem_cons_of_mem _ hs)) (A ++ sltC x) i h
      rw [List.length_append, hx, List.append_assoc] at this
      rw [List.flatMap_cons, List.append_assoc, show A.length + 8 * (i + 1) = A.length + 8 + 8 * i by omega]
      exact this
theorem sltB_len {x : Slt} (hx : x.rv.length = 7) (h : sltOk x = true) : (sltB x).length = 512 := by
  have hb := sltB_eq hx h
  have ha : ∀ s ∈ x.rv, (sltC s).length = 8 := fun s hs => by
    unfold sltOk at h
    rw [Bool.and_eq_true, List.all_eq_true] at h
    exact (text_back s (h.2 s hs)).2
  have hl : ∀ r : List (List (BitVec 8)), (∀ s ∈ r, (sltC s).length = 8) → (r.flatMap sltC).length = 8 * r.length := fun r => by
    induction r with
    | nil => intro _; rfl
    | cons s r ih => intro h2; rw [List.flatMap_cons, List.length_append, h2 s List.mem_cons_self, ih (fun t ht => h2 t (List.mem_cons_of_mem _ ht)), List.length_cons]; omega
  rw [hb, List.length_append, List.length_append, List.length_append, hl x.rv ha, hx, List.length_replicate, List.length_replicate]; rfl
theorem slt_rt (x : Slt) (hx : x.rv.length = 7) (h : sltOk x = true) (z : Slt) : decP 512 sltRd sltOkB z (sltB x) = (x, 0) := by
  have hb := sltB_eq hx h
  have h0 := h
  unfold sltOk at h
  rw [Bool.and_eq_true, List.all_eq_true] at h
  obtain ⟨r1, r2, r3, r4⟩ := sltH_rng h.1
  have ha : ∀ s ∈ x.rv, (sltC s).length = 8 := fun s hs => (text_back s (h.2 s hs)).2
  have hn : (num (sltB x) 0 1).toNat = (x.act + 16 * x.nxt).toNat := by
    rw [num_first (sltB x) (sltV x) (by rw [hb]; rfl)]
    unfold sltV
    rw [BitVec.toNat_ofNat]
    omega
  have hrv : ((List.range 7).map fun i => Wire.text (chk (sltB x) i)) = x.rv := by
    apply List.ext_getElem?
    intro i
    by_cases hi : i < 7
    · obtain ⟨s, hs⟩ : ∃ s, x.rv[i]? = some s := ⟨_, List.getElem?_eq_getElem (by omega)⟩
      rw [List.getElem?_map, List.getElem?_range hi, hs]
      have hc := flat_cut x.rv ha ([sltV x] ++ List.replicate 7 0#8) (List.replicate 448 0#8) i s hs
      rw [List.append_assoc, ← hb] at hc
      have e : chk (sltB x) i = sltC s := hc
      show some (Wire.text (chk (sltB x) i)) = _
      rw [e, (text_back s (h.2 s (List.mem_of_getElem? hs))).1]
    · rw [List.getElem?_eq_none (by rw [List.length_map, List.length_range]; omega), List.getElem?_eq_none (by omega)]
  have hr : sltRd (sltB x) = x := by
    unfold sltRd
    rw [hn, hrv]
    have e1 : (((x.act + 16 * x.nxt).toNat % 16 : Nat) : Int) = x.act := by omega
    have e2 : (((x.act + 16 * x.nxt).toNat / 16 : Nat) : Int) = x.nxt := by omega
    rw [e1, e2]
  refine decP_rt (sltB_len hx h0) hr ?_
  unfold sltOkB
  rw [hr, h0, beq_self_eq_true]; rfl
theorem no_rt (x : No) (h : noOk x = true) (ok : List (BitVec 8) → Bool) (z : No) (hok : ∀ l, ok l = (noOk (noRd l) && (noB (noRd l) == l))) : decP 64 noRd ok z (noB x) = (x, 0) :=
  decP_rt (noB_len x) (noRd_back x) (by rw [hok, noRd_back, h, beq_self_eq_true]; rfl)
theorem er_rt (x : Er) (h : erOk x = true) (ok : List (BitVec 8) → Bool) (z : Er) (hok : ∀ l, ok l = (erOk (erRd l) && (erB (erRd l) == l))) : decP 64 erRd ok z (erB x) = (x, 0) := by
  have h7 : x.st.typ.toNat ≤ 7 := of_decide_eq_true h
  exact decP_rt (erB_len x h7) (erRd_back x h7) (by rw [hok, erRd_back x h7, h, beq_self_eq_true]; rfl)
theorem hl_rt (x : Hl) (h : x.counters.length = 10) (ok : List (BitVec 8) → Bool) (z : Hl) (hok : ∀ l, ok l = ((hlRd l).counters.length == 10 && (hlB (hlRd l) == l))) : decP 512 hlRd ok z (hlB x) = (x, 0) :=
  decP_rt (hlB_len x h) (hlRd_back x h) (by rw [hok, hlRd_back x h, h]; simp)
end Lg
end Go.Proofs.YthnnopjakpjoeaaGreatDoor
