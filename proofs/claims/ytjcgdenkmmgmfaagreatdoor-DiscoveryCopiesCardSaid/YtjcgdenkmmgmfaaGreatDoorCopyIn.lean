/- copy into a slice of bytes that the call owns, at a place. -/
import Derived.Test.YtjcgdenkmmgmfaaGreatDoorApp
import Derived.Test.YtjcgdenkmmgmfaaGreatDoorChg
import Derived.Test.YtjcgdenkmmgmfaaGreatDoorLayMath
import Derived.Laws.CopyOwn
namespace Go.Proofs.YtjcgdenkmmgmfaaGreatDoor
open Go.RowKit
set_option linter.unusedVariables false
set_option linter.unusedSimpArgs false
theorem Row.src {w : World} {a : Option Addr} {vs : List Value} (h : Row w a vs) (hne : vs ≠ []) : ∃ ad, a = some ad ∧ ∀ j v, vs[j]? = some v → w.cell? (ad.add j) = some v := by
  rcases h with h | ⟨b, o, rfl, h⟩
  · exact absurd h hne
  · refine ⟨_, rfl, fun j v hj => ?_⟩
    have hlt := (List.getElem?_eq_some_iff.1 hj).1
    rw [Addr.add_lit]; exact (h j hlt).trans hj
theorem bszU : (Tryz.prog.info? 5).map (·.size) = some 1 := by kernel_rfl
/-- 'copy(own[p:], x)'. -/
theorem copy_at {ops : Array Oper} {rest : List Oper} {o : Oper} {a : Act} {Q : Exit → Act → World → Prop} {W : World} (hgd : o.guard = none) (d s : Operand) (ho : o.op = .call { callee := .builtin .copy, args := #[d, s], argTypes := #[45, 45] })
    (base g n cap p : Nat) (k l : List (BitVec 8)) (hd : a.eval d = .slice (some ⟨g, p, none⟩) (n - p) (cap - p)) (v : Value) (hs : a.eval s = v) (hown : W.ownsRow base 5 1 (.slice (some ⟨g, 0, none⟩) n cap) n (by8 k)) (hv : BytesV W v l) (hl : p + l.length ≤ n) (hpos : 0 < l.length)
    (h : ∀ w', w'.ownsRow base 5 1 (.slice (some ⟨g, 0, none⟩) n cap) n (by8 (Lay.lay k p l)) → W.grownBy w' (some g) → wpList Tryz.prog ops Q rest (a.put o.dst (goInt l.length)) w') : wpList Tryz.prog ops Q (o :: rest) a W := by
  obtain ⟨av, cv, rfl, n1, n2, n3, n4⟩ := hv
  obtain ⟨h1, h2⟩ := hown
  rcases h2 with ⟨e1, e2⟩ | ⟨g', cap', cur, hv, hg, hh, r1, r2, r3, r4⟩
  · omega
  cases hv
  simp only [by8_length, Nat.mul_one] at h1 r3 r4
  obtain ⟨ad, rfl, hsrc⟩ := n4.src (by intro e; have h0 := congrArg List.length e; rw [by8_length, List.length_nil] at h0; omega)
  refine wpList_copy_own hgd d s _ _ ho 5 Tryz.underlying45 bszU g p (n - p) (cap - p) ad l.length cv hd hs cur 5 hh (by8 l) (by rw [by8_length]; exact (Nat.min_eq_left (show l.length ≤ n - p by omega)).symm) hsrc (by rw [by8_length]; omega) (by8_one l) ?_
  rw [by8_length]
  refine h _ ⟨by rw [by8_length, Nat.mul_one, Lay.lay_len (by omega)]; exact h1, .inr ⟨g, cap, _, rfl, hg, setRow_heap _ _ _ _ _ _ hh, r1, r2, ?_, ?_⟩⟩ ?_
  · simp only [List.size_toArray, List.length_append, List.length_take, List.length_drop, by8_length, Array.length_toList]; omega
  · have hk : by8 (Lay.lay k p l) = (by8 k).take p ++ (by8 l ++ (by8 k).drop (p + l.length)) := by simp [by8, Lay.lay]
    have hc : cur.toList.take n = by8 k := r4
    rw [hk, ← hc, Nat.mul_one]
    simp only [List.take_append, List.length_take, Array.length_toList, by8_length]
    rw [List.take_take, List.take_take, Nat.min_eq_right (by omega : p ≤ n), Nat.min_eq_left (by omega : p ≤ n), Nat.min_eq_left (by omega : p ≤ cur.size), List.take_of_length_le (by rw [by8_length]; omega : (by8 l).length ≤ n - p)]
    congr 2
    rw [List.drop_take]
    congr 1
    omega
  · exact ⟨rfl, rfl, rfl, by simp [World.setRow], fun i hi hne => setRow_other W g i _ (by intro e; exact hne (by rw [e]))⟩
/-- 'own[p:]'. -/
theorem run_from (g n c p : Nat) (hp : p ≤ n) (hnc : n ≤ c) (hpc : p < c) (hc : c ≤ 9223372036854775807) (w' : World) :
    (Instr.slice 45 (.slice (some ⟨g, 0, none⟩) n c) (some (.int .i64 p)) none none).run Tryz.prog w' = .ok (.slice (some ⟨g, p, none⟩) (n - p) (c - p)) w' := by
  have he : Tryz.prog.elem 45 = 5 := by simp [Program.elem, Tryz.underlying45]
  have ht' : Tryz.prog.underlying 45 = some (.slice (Tryz.prog.elem 45)) := by rw [he]; exact Tryz.underlying45
  have hz : (sizeOf (Tryz.prog.elem 45)).run Tryz.prog w' = .ok 1 w' := by
    rw [he]
    obtain ⟨i, hi, hi'⟩ := Option.map_eq_some_iff.1 bszU
    simp [sizeOf, typeInfo, hi, hi']
  rw [run_slice_l w' 45 (some ⟨g, 0, none⟩) n c ht' .i64 p (by omega) (by omega), hz]
  simp only [Result.andThen, sliced, Option.map_some, Nat.mul_one, Addr.add_lit, Nat.zero_add, Int.toNat_natCast]
  rw [if_neg (by omega)]
end Go.Proofs.YtjcgdenkmmgmfaaGreatDoor
