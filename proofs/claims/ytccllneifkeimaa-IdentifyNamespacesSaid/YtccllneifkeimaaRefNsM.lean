/- The order in which the reference writes a namespace. -/
import Derived.Test.YtccllneifkeimaaDecNs
import Derived.Test.YtccllneifkeimaaRef24C
namespace Go.Proofs.Ytccllneifkeimaa
open Go.RowKit Idn
set_option linter.unusedVariables false
set_option linter.unusedSimpArgs false
namespace Lay
def Apart {α : Type} (a b : Nat × List α) : Prop := a.1 + a.2.length ≤ b.1 ∨ b.1 + b.2.length ≤ a.1
theorem lays_perm {α : Type} {ps qs : List (Nat × List α)} (h : ps.Perm qs) : ∀ {l : List α}, (∀ r ∈ ps, r.1 + r.2.length ≤ l.length) → ps.Pairwise Apart → lays l ps = lays l qs := by
  induction h with
  | nil => intros; rfl
  | cons p h ih =>
    intro l hl hd
    rw [List.pairwise_cons] at hd
    show lays (lay l p.1 p.2) _ = lays (lay l p.1 p.2) _
    exact ih (fun r hr => by rw [lay_len (hl p (by simp))]; exact hl r (by simp [hr])) hd.2
  | swap x y l' =>
    intro l hl hd
    rw [List.pairwise_cons] at hd
    show lays (lay (lay l y.1 y.2) x.1 x.2) l' = lays (lay (lay l x.1 x.2) y.1 y.2) l'
    rw [lay_comm (hl y (by simp)) (hl x (by simp)) (hd.1 x (by simp))]
  | trans h1 h2 ih1 ih2 =>
    intro l hl hd
    rw [ih1 hl hd]
    exact ih2 (fun r hr => hl r (h1.mem_iff.2 hr)) ((h1.pairwise_iff (fun h => h.symm)).1 hd)
theorem lay_one {l : List (BitVec 8)} {p : Nat} (v : BitVec 64) (hp : p < l.length) : lay l p (Wire.le v 1) = l.set p (v.setWidth 8) := by
  have e : Wire.le v 1 = [v.setWidth 8] := by
    apply List.ext_getElem?
    intro i
    by_cases h : i < 1
    · obtain rfl : i = 0 := by omega
      rw [Wire.le_get v 1 0 (by omega)]; simp
    · rw [List.getElem?_eq_none (by rw [Wire.le_len]; omega), List.getElem?_eq_none (by simp; omega)]
  rw [e]
  apply List.ext_getElem?
  intro i
  rw [lay_get (by simp; omega)]
  by_cases h : i = p
  · subst h
    rw [if_pos (by simp), List.getElem?_set_self hp, Nat.sub_self]; rfl
  · rw [if_neg (by simp; omega), List.getElem?_set_ne (by omega)]
end Lay
namespace Idn
/-- What the field at a place of the table lays. -/
def fN (vs : List (BitVec 64)) (j : Nat) : Nat × List (BitVec 8) := ((nsSpec.getD j (0, .u8, 0)).1, Wire.le (gv vs j) (nsSpec.getD j (0, .u8, 0)).2.1.size)
theorem nsFs_range {vs : List (BitVec 64)} (h : vs.length = 80) : nsFs vs = (List.range 80).map (fN vs) := by
  apply List.ext_getElem?
  intro j
  unfold nsFs fsOf
  by_cases hj : j < 80
  · obtain ⟨s, hs, _, _⟩ := nsSpec_at j hj
    have hv : vs[j]? = some (gv vs j) := by
      unfold gv; rw [List.getD_eq_getElem?_getD, List.getElem?_eq_getElem (by omega)]; rfl
    rw [List.getElem?_map, List.getElem?_map, List.getElem?_range hj, show (nsSpec.zip vs)[j]? = some (s, gv vs j) from List.getElem?_zip_eq_some.2 ⟨hs, hv⟩]
    show _ = some (fN vs j)
    unfold fN
    rw [List.getD_eq_getElem?_getD, hs]; rfl
  · rw [List.getElem?_eq_none (by rw [List.length_map, List.length_zip, nsSpec_len]; omega), List.getElem?_eq_none (by simp; omega)]
def ordN (k : Nat) : List Nat := List.range 16 ++ (List.range k).flatMap fun i => [16 + i, 32 + 3 * i, 32 + 3 * i + 1, 32 + 3 * i + 2]
theorem ordN_succ (k : Nat) : ordN (k + 1) = ordN k ++ [16 + k, 32 + 3 * k, 32 + 3 * k + 1, 32 + 3 * k + 2] := by
  unfold ordN; rw [show List.range (k + 1) = List.range k ++ [k] from List.range_succ, List.flatMap_append, List.append_assoc]; rfl
theorem ordN_perm : (List.range 80).Perm (ordN 16) := by decide +kernel
/-- What lies there when k blocks have been laid. -/
def stN (vs : List (BitVec 64)) (k : Nat) : List (BitVec 8) := Lay.lays zeros ((ordN k).map (fN vs))
theorem stN_end {vs : List (BitVec 64)} (h : vs.length = 80) : stN vs 16 = nsB vs := by
  have hp : (nsFs vs).Perm ((ordN 16).map (fN vs)) := by rw [nsFs_range h]; exact ordN_perm.map _
  unfold stN nsB
  exact (Lay.lays_perm hp (nsFs_in vs) (fsOf_apart nsSpec vs apart_ns)).symm
theorem guid_at : ∀ k, k < 16 → nsSpec[16 + k]? = some (104 + k, .u8, 16 + k) := by decide +kernel
theorem stN_succ (vs : List (BitVec 64)) (k : Nat) (hk : k < 16) : stN vs (k + 1) =
    Lay.lay (Lay.lay (Lay.lay (Lay.lay (stN vs k) (104 + k) (Wire.le (gv vs (16 + k)) 1)) (128 + 4 * k) (Wire.le (gv vs (32 + 3 * k)) 2)) (130 + 4 * k) (Wire.le (gv vs (32 + 3 * k + 1)) 1)) (131 + 4 * k) (Wire.le (gv vs (32 + 3 * k + 2)) 1) := by
  obtain ⟨h1, h2, h3⟩ := spec_blk k hk
  have h0 := guid_at k hk
  unfold stN
  rw [ordN_succ, List.map_append, Lay.lays_append]
  have e0 : fN vs (16 + k) = (104 + k, Wire.le (gv vs (16 + k)) 1) := by unfold fN; rw [List.getD_eq_getElem?_getD, h0]; rfl
  have e1 : fN vs (32 + 3 * k) = (128 + 4 * k, Wire.le (gv vs (32 + 3 * k)) 2) := by unfold fN; rw [List.getD_eq_getElem?_getD, h1]; rfl
  have e2 : fN vs (32 + 3 * k + 1) = (130 + 4 * k, Wire.le (gv vs (32 + 3 * k + 1)) 1) := by unfold fN; rw [List.getD_eq_getElem?_getD, h2]; rfl
  have e3 : fN vs (32 + 3 * k + 2) = (131 + 4 * k, Wire.le (gv vs (32 + 3 * k + 2)) 1) := by unfold fN; rw [List.getD_eq_getElem?_getD, h3]; rfl
  rw [List.map_cons, List.map_cons, List.map_cons, List.map_cons, List.map_nil, e0, e1, e2, e3]
  rfl
theorem stN_len (vs : List (BitVec 64)) : ∀ k, k ≤ 16 → (stN vs k).length = 4096 := by
  intro k hk
  have hj : ∀ j, j < 80 → (fN vs j).1 + (fN vs j).2.length ≤ 4096 := by
    intro j hj
    obtain ⟨s, hs, _, h4⟩ := nsSpec_at j hj
    unfold fN
    rw [List.getD_eq_getElem?_getD, hs]
    simp only [Wire.le_len, Option.getD_some]
    exact h4
  unfold stN
  rw [Lay.lays_len (fun q hq => ?_), zeros_len]
  obtain ⟨j, hm, rfl⟩ := List.mem_map.1 hq
  rw [zeros_len]
  refine hj j ?_
  unfold ordN at hm
  rcases List.mem_append.1 hm with h | h
  · have := List.mem_range.1 h; omega
  · obtain ⟨i, hi, h⟩ := List.mem_flatMap.1 h
    have := List.mem_range.1 hi
    simp only [List.mem_cons, List.not_mem_nil, or_false] at h
    omega
theorem le_set (v : BitVec 64) (k n : Nat) (h : 8 * n ≤ k) : Wire.le ((v.setWidth k).setWidth 64) n = Wire.le v n := by
  apply List.ext_getElem?
  intro i
  by_cases hi : i < n
  · rw [Wire.le_get _ _ _ hi, Wire.le_get _ _ _ hi]
    congr 1
    apply BitVec.eq_of_getLsbD_eq
    intro j hj
    simp only [BitVec.getLsbD_setWidth, BitVec.getLsbD_ushiftRight, hj, decide_true, Bool.true_and]
    rw [decide_eq_true (show 8 * i + j < k by omega), Bool.true_and]
    by_cases h6 : 8 * i + j < 64
    · rw [decide_eq_true h6, Bool.true_and]
    · rw [decide_eq_false h6, Bool.false_and]
      exact (BitVec.getLsbD_of_ge v _ (by omega)).symm
  · rw [List.getElem?_eq_none (by rw [Wire.le_len]; omega), List.getElem?_eq_none (by rw [Wire.le_len]; omega)]
end Idn
end Go.Proofs.Ytccllneifkeimaa
