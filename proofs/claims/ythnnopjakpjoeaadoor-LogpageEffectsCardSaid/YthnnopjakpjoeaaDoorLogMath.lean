/- Log pages: fixed layouts, plain laws. -/
import Derived.Test.YthnnopjakpjoeaaDoorWireD
import Derived.Test.YthnnopjakpjoeaaDoorLayMath
namespace Go.Proofs.YthnnopjakpjoeaaDoor
open Go.RowKit
set_option linter.unusedVariables false
set_option linter.unusedSimpArgs false
namespace Lg
/-- Fields, extended by zeros to n bytes. -/
def pageB (n : Nat) (fl : List WF) : List (BitVec 8) := Wire.cat fl ++ List.replicate (n - (Wire.cat fl).length) 0#8
theorem pageB_len {n : Nat} {fl : List WF} (h : (Wire.cat fl).length ≤ n) : (pageB n fl).length = n := by
  unfold pageB; rw [List.length_append, List.length_replicate]; omega
def cut (l : List (BitVec 8)) (a n : Nat) : List (BitVec 8) := (l.drop a).take n
theorem cut_len {l : List (BitVec 8)} {a n : Nat} (h : a + n ≤ l.length) : (cut l a n).length = n := by
  unfold cut; rw [List.length_take, List.length_drop]; omega
/-- The number that is read at a place. -/
def num (l : List (BitVec 8)) (a n : Nat) : BitVec 64 := Wire.get (cut l a n)
def allZ (l : List (BitVec 8)) : Bool := l.all (· == 0#8)
theorem allZ_iff {l : List (BitVec 8)} : allZ l = true ↔ l = List.replicate l.length 0#8 := by
  unfold allZ
  rw [List.all_eq_true]
  constructor
  · intro h
    exact List.eq_replicate_of_mem (fun x hx => by simpa using h x hx)
  · intro h x hx
    rw [h] at hx
    simp [List.eq_of_mem_replicate hx]
/-- Bytes whose reserved parts (false) are set to zero. -/
def keepL : List (Nat × Bool) → List (BitVec 8) → List (BitVec 8)
  | [], _ => []
  | (n, k) :: sp, l => (if k then l.take n else List.replicate n 0#8) ++ keepL sp (l.drop n)
/-- The reserved parts are zero. -/
def resOk : List (Nat × Bool) → List (BitVec 8) → Bool
  | [], _ => true
  | (n, k) :: sp, l => (k || allZ (l.take n)) && resOk sp (l.drop n)
theorem keepL_eq : ∀ (sp : List (Nat × Bool)) (l : List (BitVec 8)), l.length = (sp.map (·.1)).sum → (keepL sp l == l) = resOk sp l := by
  intro sp
  induction sp with
  | nil =>
    intro l h
    have : l = [] := List.length_eq_zero_iff.1 (by simpa using h)
    subst this; rfl
  | cons s sp ih =>
    obtain ⟨n, k⟩ := s
    intro l h
    simp only [List.map_cons, List.sum_cons] at h
    have hd : (l.drop n).length = (sp.map (·.1)).sum := by rw [List.length_drop]; omega
    have ht : (l.take n).length = n := by rw [List.length_take]; omega
    have e : l = l.take n ++ l.drop n := (List.take_append_drop n l).symm
    have hI := ih (l.drop n) hd
    unfold keepL resOk
    rw [← hI]
    rw [Bool.eq_iff_iff, Bool.and_eq_true, Bool.or_eq_true, beq_iff_eq, beq_iff_eq]
    cases k with
    | true =>
      rw [if_pos rfl]
      constructor
      · intro h2
        refine ⟨.inl rfl, ?_⟩
        have h3 : l.take n ++ keepL sp (l.drop n) = l.take n ++ l.drop n := by rw [h2, ← e]
        exact List.append_cancel_left h3
      · rintro ⟨-, h2⟩
        rw [h2]; exact e.symm
    | false =>
      rw [if_neg (by decide), allZ_iff, ht]
      constructor
      · intro h2
        have h3 : List.replicate n 0#8 ++ keepL sp (l.drop n) = l.take n ++ l.drop n := by rw [h2, ← e]
        obtain ⟨h4, h5⟩ := List.append_inj h3 (by rw [List.length_replicate, ht])
        exact ⟨.inr h4.symm, h5⟩
      · rintro ⟨h2, h3⟩
        rw [h3]
        rcases h2 with h2 | h2
        · cases h2
        · rw [← h2]; exact e.symm
theorem fit_any (v : BitVec 64) (n : Nat) (h1 : 1 ≤ n) (h8 : n ≤ 8) (h : v.toNat < 2 ^ (8 * n)) : Wire.putE v n = 0 ∧ Wire.putB v n = Wire.le v n := by
  have h0 : Wire.putE v n = 0 := Wire.putE_ok v n h1 h8 (fun hn => by
    apply BitVec.eq_of_toNat_eq
    rw [BitVec.toNat_ushiftRight, Nat.shiftRight_eq_div_pow, Nat.div_eq_of_lt h]; rfl)
  exact ⟨h0, Wire.putB_ok v n h0⟩
theorem fit8 (y : BitVec 8) : Wire.putE (y.setWidth 64) 1 = 0 ∧ Wire.putB (y.setWidth 64) 1 = Wire.le (y.setWidth 64) 1 := fit_any _ 1 (by decide) (by decide) (by rw [BitVec.toNat_setWidth]; have := y.isLt; omega)
theorem fit16 (y : BitVec 16) : Wire.putE (y.setWidth 64) 2 = 0 ∧ Wire.putB (y.setWidth 64) 2 = Wire.le (y.setWidth 64) 2 := fit_any _ 2 (by decide) (by decide) (by rw [BitVec.toNat_setWidth]; have := y.isLt; omega)
theorem fit32 (y : BitVec 32) : Wire.putE (y.setWidth 64) 4 = 0 ∧ Wire.putB (y.setWidth 64) 4 = Wire.le (y.setWidth 64) 4 := fit_any _ 4 (by decide) (by decide) (by rw [BitVec.toNat_setWidth]; have := y.isLt; omega)
theorem fit64 (y : BitVec 64) : Wire.putE y 8 = 0 ∧ Wire.putB y 8 = Wire.le y 8 := fit_any _ 8 (by decide) (by decide) (by have := y.isLt; omega)
theorem fit0 (n : Nat) (h1 : 1 ≤ n) (h8 : n ≤ 8) : Wire.putE 0#64 n = 0 ∧ Wire.putB 0#64 n = List.replicate n 0#8 := by
  obtain ⟨a, b⟩ := fit_any 0#64 n h1 h8 (Nat.two_pow_pos _)
  refine ⟨a, b.trans ?_⟩
  unfold Wire.le
  apply List.ext_getElem?
  intro i
  simp [List.getElem?_map, List.getElem?_range, List.getElem?_replicate]
  by_cases hi : i < n
  · simp [hi, List.getElem?_range]
  · simp [hi]
theorem num_le (l : List (BitVec 8)) (a n : Nat) (h : a + n ≤ l.length) (h8 : n ≤ 8) : Wire.le (num l a n) n = cut l a n := by
  have hl := cut_len h
  have := Wire.le_getv (cut l a n) (by omega)
  rw [hl] at this
  exact this
theorem num_lt (l : List (BitVec 8)) (a n : Nat) (h : a + n ≤ l.length) (h8 : n < 8) : (num l a n).toNat < 2 ^ (8 * n) := by
  have hl := cut_len h
  have h2 := congrArg BitVec.toNat (Wire.get_high (cut l a n) (by omega))
  rw [BitVec.toNat_ushiftRight, Nat.shiftRight_eq_div_pow, hl] at h2
  have hz : (0#64).toNat = 0 := rfl
  rw [hz] at h2
  exact (Nat.div_eq_zero_iff.1 h2).resolve_left (by have := Nat.two_pow_pos (8 * n); omega)
theorem num_back8 (l : List (BitVec 8)) (a : Nat) (h : a + 1 ≤ l.length) : ((num l a 1).setWidth 8).setWidth 64 = num l a 1 := by
  apply BitVec.eq_of_toNat_eq
  have := num_lt l a 1 h (by decide)
  rw [BitVec.toNat_setWidth, BitVec.toNat_setWidth]; omega
theorem num_back16 (l : List (BitVec 8)) (a : Nat) (h : a + 2 ≤ l.length) : ((num l a 2).setWidth 16).setWidth 64 = num l a 2 := by
  apply BitVec.eq_of_toNat_eq
  have := num_lt l a 2 h (by decide)
  rw [BitVec.toNat_setWidth, BitVec.toNat_setWidth]; omega
theorem num_back32 (l : List (BitVec 8)) (a : Nat) (h : a + 4 ≤ l.length) : ((num l a 4).setWidth 32).setWidth 64 = num l a 4 := by
  apply BitVec.eq_of_toNat_eq
  have := num_lt l a 4 h (by decide)
  rw [BitVec.toNat_setWidth, BitVec.toNat_setWidth]; omega
theorem allE_iff (fl : List WF) : Wire.allE fl = 0 ↔ ∀ f ∈ fl, Wire.putE f.1 f.2 = 0 := by
  induction fl with
  | nil => simp [Wire.allE]
  | cons f fl ih =>
    unfold Wire.allE
    rw [List.forall_mem_cons]
    by_cases h : Wire.putE f.1 f.2 = 0
    · rw [if_pos h, ih]; exact ⟨fun k => ⟨h, k⟩, fun k => k.2⟩
    · rw [if_neg h]; exact ⟨fun k => absurd k h, fun k => absurd k.1 h⟩
def sz (fl : List WF) : Nat := (fl.map fun f => f.2.toNat).sum
theorem cat_len0 (fl : List WF) (he : Wire.allE fl = 0) : (Wire.cat fl).length = sz fl := by
  induction fl with
  | nil => rfl
  | cons f fl ih =>
    rw [allE_iff, List.forall_mem_cons, ← allE_iff] at he
    obtain ⟨h, -⟩ | ⟨h, -⟩ | ⟨-, k, hk, h1, h8, -⟩ := Wire.putE_cases f.1 f.2
    · omega
    · omega
    have hp := he.1
    rw [hk] at hp
    unfold sz Wire.cat
    rw [List.flatMap_cons, List.length_append, List.map_cons, List.sum_cons, hk, Wire.putB_ok _ _ hp, Wire.le_len, Int.toNat_natCast]
    have := ih he.2
    unfold Wire.cat sz at this
    omega
theorem num_skip (a b : List (BitVec 8)) (s n : Nat) : num (a ++ b) (a.length + s) n = num b s n := by
  unfold num cut; rw [← List.drop_drop, List.drop_left]
/-- A field is read back at its place. -/
theorem num_field (fl : List WF) (he : Wire.allE fl = 0) (rest : List (BitVec 8)) (i : Nat) (f : WF) (h : fl[i]? = some f) : num (Wire.cat fl ++ rest) (sz (fl.take i)) f.2.toNat = f.1 := by
  induction fl generalizing i with
  | nil => simp at h
  | cons g fl ih =>
    rw [allE_iff, List.forall_mem_cons, ← allE_iff] at he
    obtain ⟨h0, -⟩ | ⟨h0, -⟩ | ⟨-, k, hk, h1, h8, h9⟩ := Wire.putE_cases g.1 g.2
    · omega
    · omega
    have hp := he.1
    rw [hk] at hp
    have hb : Wire.putB g.1 g.2 = Wire.le g.1 k := by rw [hk]; exact Wire.putB_ok _ _ hp
    have hc : Wire.cat (g :: fl) = Wire.le g.1 k ++ Wire.cat fl := by unfold Wire.cat; rw [List.flatMap_cons, hb]
    rw [hc, List.append_assoc]
    cases i with
    | zero =>
      simp at h; subst h
      unfold num cut sz
      rw [hk, Int.toNat_natCast, List.take_zero, List.map_nil, List.sum_nil, List.drop_zero]
      have : (Wire.le g.1 k ++ (Wire.cat fl ++ rest)).take k = Wire.le g.1 k := List.take_left' (Wire.le_len _ _)
      rw [this]
      exact Wire.get_le _ _ h8 h9
    | succ i =>
      simp at h
      have hs : sz ((g :: fl).take (i + 1)) = (Wire.le g.1 k).length + sz (fl.take i) := by
        unfold sz; rw [List.take_succ_cons, List.map_cons, List.sum_cons, hk, Int.toNat_natCast, Wire.le_len]
      rw [hs, num_skip]
      exact ih he.2 i h
/-- What is read of a layout, as fields again. -/
def fieldsOf (l : List (BitVec 8)) : Nat → List (Nat × Bool) → List WF
  | _, [] => []
  | a, (n, k) :: sp => ((if k then num l a n else 0#64), (n : Int)) :: fieldsOf l (a + n) sp
def spSz (sp : List (Nat × Bool)) : Nat := (sp.map (·.1)).sum
theorem cat_fieldsOf (l : List (BitVec 8)) : ∀ (sp : List (Nat × Bool)) (a : Nat), (∀ s ∈ sp, 1 ≤ s.1 ∧ s.1 ≤ 8) → a + spSz sp ≤ l.length → Wire.allE (fieldsOf l a sp) = 0 ∧ Wire.cat (fieldsOf l a sp) = keepL sp (l.drop a) := by
  intro sp
  induction sp with
  | nil => intro a _ _; exact ⟨rfl, rfl⟩
  | cons s sp ih =>
    obtain ⟨n, k⟩ := s
    intro a hs hl
    rw [List.forall_mem_cons] at hs
    obtain ⟨⟨h1, h8⟩, hs⟩ := hs
    have hz : spSz ((n, k) :: sp) = n + spSz sp := by unfold spSz; rw [List.map_cons, List.sum_cons]
    rw [hz] at hl
    obtain ⟨i1, i2⟩ := ih (a + n) hs (by omega)
    have key : Wire.putE (if k then num l a n else 0#64) n = 0 ∧ Wire.putB (if k then num l a n else 0#64) n = (if k then (l.drop a).take n else List.replicate n 0#8) := by
      cases k with
      | false => exact fit0 n h1 h8
      | true =>
        have hn := num_le l a n (by omega) h8
        have hf : Wire.putE (num l a n) n = 0 ∧ Wire.putB (num l a n) n = Wire.le (num l a n) n := fit_any _ n h1 h8 (by
          by_cases h : n = 8
          · subst h; have := (num l a 8).isLt; omega
          · exact num_lt l a n (by omega) (by omega))
        rw [if_pos rfl, if_pos rfl]
        exact ⟨hf.1, hf.2.trans hn⟩
    constructor
    · unfold fieldsOf Wire.allE
      rw [if_pos key.1]; exact i1
    · unfold fieldsOf keepL
      unfold Wire.cat at i2 ⊢
      rw [List.flatMap_cons, i2, ← List.drop_drop]
      exact congrArg (· ++ _) key.2
theorem keepL_snoc (sp : List (Nat × Bool)) (m : Nat) (l : List (BitVec 8)) : keepL (sp ++ [(m, false)]) l = keepL sp l ++ List.replicate m 0#8 := by
  induction sp generalizing l with
  | nil => simp [keepL]
  | cons s sp ih => obtain ⟨n, k⟩ := s; rw [List.cons_append]; unfold keepL; rw [ih, List.append_assoc]
/-- What was read is written: the bytes are the same if the reserved ones are zero. -/
theorem page_back (l : List (BitVec 8)) (sp : List (Nat × Bool)) (m N : Nat) (hs : ∀ s ∈ sp, 1 ≤ s.1 ∧ s.1 ≤ 8) (hN : N = spSz sp + m) (hl : l.length = N) : (pageB N (fieldsOf l 0 sp) == l) = resOk (sp ++ [(m, false)]) l := by
  subst hN
  obtain ⟨h1, h2⟩ := cat_fieldsOf l sp 0 hs (by omega)
  have hlen : (keepL sp l).length = spSz sp := by
    have := cat_len0 _ h1
    rw [h2, List.drop_zero] at this
    rw [this]
    clear this h1 h2 hl
    generalize 0 = a
    unfold sz spSz
    induction sp generalizing a with
    | nil => rfl
    | cons s sp ih =>
      obtain ⟨n, k⟩ := s
      unfold fieldsOf
      rw [List.map_cons, List.map_cons, List.sum_cons, List.sum_cons, Int.toNat_natCast, ih (fun s h => hs s (List.mem_cons_of_mem _ h))]
  rw [← keepL_eq _ _ (by rw [hl, List.map_append, List.sum_append]; rfl), keepL_snoc]
  unfold pageB
  rw [h2, List.drop_zero, hlen, show spSz sp + m - spSz sp = m by omega]
/-- Fields laid at their places in zeros (a field that is 0 may be left out). -/
def plc : Nat → List (WF × Bool) → List (Nat × List (BitVec 8))
  | _, [] => []
  | a, (f, k) :: fl => (if k then [(a, Wire.putB f.1 f.2)] else []) ++ plc (a + f.2.toNat) fl
theorem lays_cat : ∀ (fl : List (WF × Bool)) (pre : List (BitVec 8)) (m : Nat), (∀ f ∈ fl, Wire.putE f.1.1 f.1.2 = 0 ∧ (f.2 = false → f.1.1 = 0#64)) → sz (fl.map (·.1)) ≤ m →
    Lay.lays (pre ++ List.replicate m 0#8) (plc pre.length fl) = pre ++ (Wire.cat (fl.map (·.1)) ++ List.replicate (m - sz (fl.map (·.1))) 0#8) := by
  intro fl
  induction fl with
  | nil => intro pre m _ _; simp [plc, Lay.lays_nil, Wire.cat, sz]
  | cons g fl ih =>
    obtain ⟨⟨v, n⟩, b⟩ := g
    intro pre m h hm
    rw [List.forall_mem_cons] at h
    obtain ⟨⟨hp, hz⟩, h⟩ := h
    dsimp only at hp hz
    obtain ⟨h0, -⟩ | ⟨h0, -⟩ | ⟨-, k, hk, h1, h8, h9⟩ := Wire.putE_cases v n
    · omega
    · omega
    subst hk
    have hb : Wire.putB v (k : Int) = Wire.le v k := Wire.putB_ok _ _ hp
    have hs : sz (((v, (k : Int)), b) :: fl |>.map (·.1)) = k + sz (fl.map (·.1)) := by unfold sz; rw [List.map_cons, List.map_cons, List.sum_cons, Int.toNat_natCast]
    rw [hs] at hm ⊢
    have hc : Wire.cat ((((v, (k : Int)), b) :: fl).map (·.1)) = Wire.le v k ++ Wire.cat (fl.map (·.1)) := by unfold Wire.cat; rw [List.map_cons, List.flatMap_cons, hb]
    rw [hc]
    have e1 : Lay.lays (pre ++ List.replicate m 0#8) (if b then [(pre.length, Wire.putB v (k : Int))] else []) = (pre ++ Wire.le v k) ++ List.replicate (m - k) 0#8 := by
      have hl : Lay.lay (pre ++ List.replicate m 0#8) pre.length (Wire.le v k) = (pre ++ Wire.le v k) ++ List.replicate (m - k) 0#8 := by
        unfold Lay.lay
        rw [List.take_left, Wire.le_len, ← List.drop_drop, List.drop_left, List.drop_replicate, List.append_assoc]
      cases b with
      | true => rw [if_pos rfl, hb]; exact hl
      | false =>
        rw [if_neg (by decide), Lay.lays_nil]
        have hv := hz rfl
        subst hv
        have := (fit0 k h1 h8).2
        rw [hb] at this
        rw [this, List.append_assoc, List.replicate_append_replicate, show k + (m - k) = m by omega]
    unfold plc
    dsimp only
    rw [Lay.lays_append, e1, Int.toNat_natCast]
    have hpl : pre.length + k = (pre ++ Wire.le v k).length := by rw [List.length_append, Wire.le_len]
    rw [hpl, ih (pre ++ Wire.le v k) (m - k) h (by omega), List.append_assoc, List.append_assoc, show m - k - sz (fl.map (·.1)) = m - (k + sz (fl.map (·.1))) by omega]
theorem lays_page (fl : List (WF × Bool)) (N : Nat) (h : ∀ f ∈ fl, Wire.putE f.1.1 f.1.2 = 0 ∧ (f.2 = false → f.1.1 = 0#64)) (hm : sz (fl.map (·.1)) ≤ N) : Lay.lays (List.replicate N 0#8) (plc 0 fl) = pageB N (fl.map (·.1)) := by
  have := lays_cat fl [] N h hm
  rw [List.nil_append, List.nil_append] at this
  refine this.trans ?_
  unfold pageB
  rw [cat_len0 _ ((allE_iff _).2 (fun f hf => by obtain ⟨g, hg, rfl⟩ := List.mem_map.1 hf; exact (h g hg).1))]
/-- What bytes of a fixed size decode to. -/
def decP {α : Type} (n : Nat) (rd : List (BitVec 8) → α) (ok : List (BitVec 8) → Bool) (z : α) (l : List (BitVec 8)) : α × Int :=
  if l.length < n then (z, 4) else if n < l.length then (z, 5) else if ok l then (rd l, 0) else (z, 6)
theorem decP_congr {α : Type} (n : Nat) (rd1 rd2 : List (BitVec 8) → α) (ok1 ok2 : List (BitVec 8) → Bool) (z : α) (l : List (BitVec 8)) (h : l.length = n → rd1 l = rd2 l ∧ ok1 l = ok2 l) : decP n rd1 ok1 z l = decP n rd2 ok2 z l := by
  unfold decP
  by_cases h1 : l.length < n
  · rw [if_pos h1, if_pos h1]
  · rw [if_neg h1, if_neg h1]
    by_cases h2 : n < l.length
    · rw [if_pos h2, if_pos h2]
    · obtain ⟨e1, e2⟩ := h (by omega)
      rw [if_neg h2, if_neg h2, e1, e2]
end Lg
end Go.Proofs.YthnnopjakpjoeaaDoor
