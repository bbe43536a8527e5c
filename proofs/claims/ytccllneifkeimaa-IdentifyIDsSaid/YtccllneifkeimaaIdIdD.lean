/- What is read of identifiers: the plain part, and the closure of DecodeIDs. -/
import Derived.Test.YtccllneifkeimaaIdDec
import Derived.Test.YtccllneifkeimaaIdIDs
namespace Go.Proofs.Ytccllneifkeimaa
open Go.RowKit Idn
set_option linter.unusedVariables false
set_option linter.unusedSimpArgs false
namespace Idn
def lenI : Nat → Nat | 0 => 8 | _ => 16
def atI (l : List (BitVec 8)) : Nat → Nat
  | 0 => 0
  | k + 1 => if l[atI l k]? == some (BitVec.ofNat 8 (k + 1)) then atI l k + (4 + lenI k) else atI l k
def hitI (l : List (BitVec 8)) (k : Nat) : Bool := l[atI l k]? == some (BitVec.ofNat 8 (k + 1))
def prI (l : List (BitVec 8)) (k : Nat) : List (BitVec 8) := if hitI l k then cutL l (atI l k + 4) (lenI k) else List.replicate (lenI k) 0#8
def setI (l : List (BitVec 8)) : BitVec 8 := if hitI l 3 then l.getD (atI l 3 + 4) 0#8 + 1#8 else 0#8
/-- What is read of bytes. -/
def rdI (l : List (BitVec 8)) : Ids := ⟨prI l 0, prI l 1, prI l 2, setI l⟩
def idsZ : Ids := ⟨List.replicate 8 0#8, List.replicate 16 0#8, List.replicate 16 0#8, 0#8⟩
/-- The first k parts have been read. -/
def idsK (l : List (BitVec 8)) (k : Nat) : Ids := ⟨if 0 < k then prI l 0 else List.replicate 8 0#8, if 1 < k then prI l 1 else List.replicate 16 0#8, if 2 < k then prI l 2 else List.replicate 16 0#8, 0#8⟩
theorem lenI_le (k : Nat) : lenI k ≤ 16 := by cases k <;> simp [lenI]
theorem atI_succ (l : List (BitVec 8)) (k : Nat) : atI l (k + 1) = if hitI l k then atI l k + (4 + lenI k) else atI l k := rfl
theorem atI_le (l : List (BitVec 8)) (k : Nat) : atI l k ≤ 20 * k := by
  induction k with
  | zero => exact Nat.le_refl _
  | succ k ih =>
    have := lenI_le k
    rw [atI_succ]; split <;> omega
theorem prI_len {l : List (BitVec 8)} (hl : l.length = 4096) (k : Nat) (hk : k < 4) : (prI l k).length = lenI k := by
  unfold prI
  have := atI_le l k; have := lenI_le k
  split
  · exact cutL_len (by omega)
  · exact List.length_replicate
theorem rdI_ok {l : List (BitVec 8)} (hl : l.length = 4096) : Ids.Ok (rdI l) := ⟨prI_len hl 0 (by omega), prI_len hl 1 (by omega), prI_len hl 2 (by omega)⟩
theorem idsK_ok {l : List (BitVec 8)} (hl : l.length = 4096) (k : Nat) : Ids.Ok (idsK l k) := by
  refine ⟨?_, ?_, ?_⟩ <;> (unfold idsK; dsimp only; split)
  · exact prI_len hl 0 (by omega)
  · rfl
  · exact prI_len hl 1 (by omega)
  · rfl
  · exact prI_len hl 2 (by omega)
  · rfl
def offI : Nat → Nat | 0 => 0 | 1 => 8 | _ => 24
def putI (y : Ids) (k : Nat) (c : List (BitVec 8)) : Ids := match k with | 0 => { y with e := c } | 1 => { y with g := c } | _ => { y with u := c }
theorem cells_put (y : Ids) (hy : Ids.Ok y) (k : Nat) (hk : k < 3) (c : List (BitVec 8)) (hc : c.length = lenI k) :
    ((Ids.cells y).take (offI k) ++ (by8 c ++ (Ids.cells y).drop (offI k + c.length))) = Ids.cells (putI y k c) := by
  obtain ⟨h1, h2, h3⟩ := hy
  rw [Ids.cells_eq, Ids.cells_eq]
  have hk3 : k = 0 ∨ k = 1 ∨ k = 2 := by omega
  rcases hk3 with rfl | rfl | rfl
  · simp only [lenI] at hc
    simp only [offI, putI, List.take_zero, List.nil_append, Nat.zero_add, hc]
    congr 1
    exact List.drop_left' (by rw [by8_length, h1])
  · simp only [lenI] at hc
    simp only [offI, putI, hc]
    rw [List.take_left' (by rw [by8_length, h1])]
    congr 2
    rw [← List.append_assoc]
    exact List.drop_left' (by rw [List.length_append, by8_length, by8_length, h1, h2])
  · simp only [lenI] at hc
    simp only [offI, putI, hc]
    have e1 : (by8 y.e ++ (by8 y.g ++ (by8 y.u ++ [Value.int .u8 (uv y.set)]))).take 24 = by8 y.e ++ by8 y.g := by
      rw [← List.append_assoc, List.take_left' (by rw [List.length_append, by8_length, by8_length, h1, h2])]
    have e2 : (by8 y.e ++ (by8 y.g ++ (by8 y.u ++ [Value.int .u8 (uv y.set)]))).drop (24 + 16) = [Value.int .u8 (uv y.set)] := by
      rw [← List.append_assoc, ← List.append_assoc, List.drop_left' (by rw [List.length_append, List.length_append, by8_length, by8_length, by8_length, h1, h2, h3])]
    rw [e1, e2, List.append_assoc]
theorem cells_set (y : Ids) (hy : Ids.Ok y) (s : BitVec 8) : ((Ids.cells y).toArray.setIfInBounds 40 (.int .u8 (uv s))) = (Ids.cells { y with set := s }).toArray := by
  obtain ⟨h1, h2, h3⟩ := hy
  apply Array.ext'
  rw [Array.toList_setIfInBounds]
  show (Ids.cells y).set 40 _ = _
  rw [Ids.cells_eq, Ids.cells_eq, ← List.append_assoc, ← List.append_assoc, ← List.append_assoc, ← List.append_assoc, List.set_append_right _ _ (by simp [h1, h2, h3])]
  simp [h1, h2, h3]
theorem idsK_next (l : List (BitVec 8)) (k : Nat) (hk : k < 3) (c : List (BitVec 8)) (hc : prI l k = c) : putI (idsK l k) k c = idsK l (k + 1) := by
  subst hc
  have hk3 : k = 0 ∨ k = 1 ∨ k = 2 := by omega
  rcases hk3 with rfl | rfl | rfl <;> rfl
theorem idsK_same (l : List (BitVec 8)) (k : Nat) (hk : k < 3) (h : hitI l k = false) : idsK l k = idsK l (k + 1) := by
  have e : prI l k = List.replicate (lenI k) 0#8 := by unfold prI; rw [h]; rfl
  have hk3 : k = 0 ∨ k = 1 ∨ k = 2 := by omega
  rcases hk3 with rfl | rfl | rfl <;> (simp only [lenI] at e; simp [idsK, e])
theorem idsK_3 (l : List (BitVec 8)) : { idsK l 3 with set := setI l } = rdI l := rfl
end Idn
theorem run_fromO (g o n c p : Nat) (hp : p ≤ n) (hnc : n ≤ c) (hpc : p < c) (hc : c ≤ 9223372036854775807) (w' : World) :
    (Instr.slice 28 (.slice (some ⟨g, o, none⟩) n c) (some (.int .i64 p)) none none).run Try.prog w' = .ok (.slice (some ⟨g, o + p, none⟩) (n - p) (c - p)) w' := by
  have he : Try.prog.elem 28 = 5 := by simp [Program.elem, Try.underlying28]
  have ht' : Try.prog.underlying 28 = some (.slice (Try.prog.elem 28)) := by rw [he]; exact Try.underlying28
  have hz : (sizeOf (Try.prog.elem 28)).run Try.prog w' = .ok 1 w' := by
    rw [he]
    obtain ⟨i, hi, hi'⟩ := Option.map_eq_some_iff.1 bszU
    simp [sizeOf, typeInfo, hi, hi']
  rw [run_slice_l w' 28 (some ⟨g, o, none⟩) n c ht' .i64 p (by omega) (by omega), hz]
  simp only [Result.andThen, sliced, Option.map_some, Nat.mul_one, Addr.add_lit, Int.toNat_natCast]
  rw [if_neg (by omega)]
/-- 'copy(id, x)': a part of identifiers that lie in a block. -/
theorem copy_part {ops : Array Oper} {rest : List Oper} {o : Oper} {a : Act} {Q : Exit → Act → World → Prop} {W : World} (hgd : o.guard = none) (d s : Operand) (ho : o.op = .call { callee := .builtin .copy, args := #[d, s], argTypes := #[28, 28] })
    (X k : Nat) (hk : k < 3) (y : Ids) (hy : Ids.Ok y) (T : TypeId) (hx : W.heap[X]? = some (.cells (Ids.cells y).toArray T (0, 0))) (hd : a.eval d = .slice (some ⟨X, offI k, none⟩) (lenI k) (lenI k))
    (v : Value) (l c : List (BitVec 8)) (hs : a.eval s = v) (hv : BytesV W v l) (hl : lenI k ≤ l.length) (hc : l.take (lenI k) = c)
    (h : wpList Try.prog ops Q rest (a.put o.dst (goInt c.length)) (W.setRow X (Ids.cells (putI y k c)).toArray)) : wpList Try.prog ops Q (o :: rest) a W := by
  obtain ⟨av, cv, rfl, n1, n2, n3, n4⟩ := hv
  have h16 : 0 < lenI k := by cases k <;> simp [lenI]
  have hcl : c.length = lenI k := by rw [← hc, List.length_take]; omega
  obtain ⟨ad, rfl, hsrc⟩ := n4.src (by intro e; have h0 := congrArg List.length e; rw [by8_length, List.length_nil] at h0; omega)
  have hsz : (Ids.cells y).toArray.size = 41 := by rw [List.size_toArray, Ids.cells_eq]; simp [hy.1, hy.2.1, hy.2.2]
  have hoff : offI k + lenI k ≤ 40 := by
    have hk3 : k = 0 ∨ k = 1 ∨ k = 2 := by omega
    rcases hk3 with rfl | rfl | rfl <;> simp [offI, lenI]
  refine wpList_copy_own hgd d s _ _ ho 5 Try.underlying28 bszU X (offI k) (lenI k) (lenI k) ad l.length cv hd hs (Ids.cells y).toArray T hx (by8 c) (by rw [by8_length, hcl]; exact (Nat.min_eq_right hl).symm) (fun j u hj => hsrc j u ?_) (by rw [by8_length, hsz]; omega) (by8_one c) ?_
  · rw [by8_get] at hj ⊢
    rw [← hc] at hj
    have hj2 : j < lenI k := by
      by_cases e : j < lenI k
      · exact e
      · rw [List.getElem?_take_eq_none (by omega)] at hj; cases hj
    rw [List.getElem?_take_of_lt hj2] at hj
    exact hj
  · rw [by8_length]
    have := cells_put y hy k hk c hcl
    rw [this]
    exact h
end Go.Proofs.Ytccllneifkeimaa
