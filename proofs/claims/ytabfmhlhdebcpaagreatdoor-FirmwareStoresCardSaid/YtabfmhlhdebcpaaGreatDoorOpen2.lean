/- Arguments that are structs and arrays, opened cell by cell. -/
import Derived.Test.YtabfmhlhdebcpaaGreatDoorOpen
import Derived.OpenShut
namespace Go.Proofs.YtabfmhlhdebcpaaGreatDoor
open Go.ChangeShapes Go.WideShapes Go.ChangeAt Go.RowKit
set_option linter.unusedVariables false
set_option linter.unusedSimpArgs false
section
variable {H : Type} {enc : TypeId × Value → H} {P : Program} {w : World} {sp : Nat → Bool} {held : Bool} {fuel : Nat} {t : TypeId} {cs : List Value} {x : DataW H × List MemPlace}
theorem trod_fields {fs : Array Field} (ht : P.underlying t = some (.struct fs)) (h : DataW.trod enc P w 0 sp held fuel t cs = some x) :
    cs.length = P.cellsOf t ∧ ∀ (i : Nat) (f : Field), fs[i]? = some f → ∃ n y, DataW.trod enc P w 0 sp held n f.type ((cs.drop f.offset).take (P.cellsOf f.type)) = some y := by
  obtain ⟨xs, n, _, _, hl, hx, hf⟩ := DataW.trod_struct ht h
  refine ⟨hl, fun i f hi => ?_⟩
  have hlt : i < fs.size := (Array.getElem?_eq_some_iff.1 hi).1
  refine ⟨n, xs[i]'(by omega), ?_⟩
  rw [hf i f hi]; exact List.getElem?_eq_getElem _
theorem trod_elems {n : Nat} {e : TypeId} (ht : P.underlying t = some (.array n e)) (h : DataW.trod enc P w 0 sp held fuel t cs = some x) :
    cs.length = P.cellsOf t ∧ ∀ i, i < n → ∃ m y, DataW.trod enc P w 0 sp held m e ((cs.drop (i * P.cellsOf e)).take (P.cellsOf e)) = some y := by
  obtain ⟨xs, m, _, _, hl, hx, hf⟩ := DataW.trod_array ht h
  refine ⟨hl, fun i hi => ⟨m, xs[i]'(by omega), ?_⟩⟩
  rw [hf i hi]; exact List.getElem?_eq_getElem _
theorem cell_u8 (ht : P.underlying t = some (.int .u8)) (h : DataW.trod enc P w 0 sp held fuel t cs = some x) : ∃ n : BitVec 8, cs = [.int .u8 (uv n)] := by
  obtain ⟨n, e, _, wn⟩ := DataW.trod_int ht h
  exact ⟨_, e.trans (congrArg (fun m => [Value.int .u8 m]) (uv_ofInt8 n wn))⟩
theorem cell_u16 (ht : P.underlying t = some (.int .u16)) (h : DataW.trod enc P w 0 sp held fuel t cs = some x) : ∃ n : BitVec 16, cs = [.int .u16 (uv n)] := by
  obtain ⟨n, e, _, wn⟩ := DataW.trod_int ht h
  exact ⟨_, e.trans (congrArg (fun m => [Value.int .u16 m]) (uv_ofInt16 n wn))⟩
theorem cell_u32 (ht : P.underlying t = some (.int .u32)) (h : DataW.trod enc P w 0 sp held fuel t cs = some x) : ∃ n : BitVec 32, cs = [.int .u32 (uv n)] := by
  obtain ⟨n, e, _, wn⟩ := DataW.trod_int ht h
  exact ⟨_, e.trans (congrArg (fun m => [Value.int .u32 m]) (uv_ofInt32 n wn))⟩
theorem cell_u64 (ht : P.underlying t = some (.int .u64)) (h : DataW.trod enc P w 0 sp held fuel t cs = some x) : ∃ n : BitVec 64, cs = [.int .u64 (uv n)] := by
  obtain ⟨n, e, _, wn⟩ := DataW.trod_int ht h
  exact ⟨_, e.trans (congrArg (fun m => [Value.int .u64 m]) (uv_ofInt64 n wn))⟩
theorem cell_i64 (ht : P.underlying t = some (.int .i64)) (h : DataW.trod enc P w 0 sp held fuel t cs = some x) : ∃ n : Int, cs = [.int .i64 n] ∧ -9223372036854775808 ≤ n ∧ n ≤ 9223372036854775807 := by
  obtain ⟨n, e, _, wn⟩ := DataW.trod_int ht h
  exact ⟨_, e, i64_range n wn⟩
theorem cell_bool (ht : P.underlying t = some .bool) (h : DataW.trod enc P w 0 sp held fuel t cs = some x) : ∃ b : Bool, cs = [.bool b] := by
  obtain ⟨b, e, _⟩ := DataW.trod_bool ht h
  exact ⟨_, e⟩
theorem agg_struct {fs : Array Field} {r : Reach} {b0 : Nat} {v : Value} {d : DataW H} {ps : List MemPlace} (ht : P.underlying t = some (.struct fs)) (hval : Value.okWide P w r b0 t v) (h : DataW.Trod enc P w 0 sp held t v d ps) :
    ∃ l : List Value, v = .agg l.toArray ∧ l.length = P.cellsOf t ∧ ∃ fuel, DataW.trod enc P w 0 sp held fuel t l = some (d, ps) := by
  simp only [Value.okWide, ht] at hval
  obtain ⟨⟨l⟩, rfl, hsz, _⟩ := hval
  obtain ⟨fuel, hf⟩ := h
  exact ⟨l, rfl, by simpa using hsz, fuel, hf⟩
theorem agg_array {n : Nat} {e : TypeId} {r : Reach} {b0 : Nat} {v : Value} {d : DataW H} {ps : List MemPlace} (ht : P.underlying t = some (.array n e)) (hval : Value.okWide P w r b0 t v) (h : DataW.Trod enc P w 0 sp held t v d ps) :
    ∃ l : List Value, v = .agg l.toArray ∧ l.length = P.cellsOf t ∧ ∃ fuel, DataW.trod enc P w 0 sp held fuel t l = some (d, ps) := by
  simp only [Value.okWide, ht] at hval
  obtain ⟨⟨l⟩, rfl, hsz, _⟩ := hval
  obtain ⟨fuel, hf⟩ := h
  exact ⟨l, rfl, by simpa using hsz, fuel, hf⟩
theorem take_one {l : List Value} {i : Nat} {v : Value} (h : (l.drop i).take 1 = [v]) : l[i]? = some v := by
  have h1 := congrArg (fun l => l[0]?) h
  simp only [List.getElem?_take_of_lt Nat.zero_lt_one, List.getElem?_drop] at h1
  simpa using h1
/-- An array of bytes. -/
theorem open_arr {n : Nat} {e : TypeId} {r : Reach} {b0 : Nat} {v : Value} {d : DataW H} {ps : List MemPlace} (ht : P.underlying t = some (.array n e)) (he : P.underlying e = some (.int .u8)) (hc : P.cellsOf e = 1) (hn : P.cellsOf t = n) (hval : Value.okWide P w r b0 t v) (h : DataW.Trod enc P w 0 sp held t v d ps) :
    ∃ l : List (BitVec 8), v = .agg (by8 l).toArray ∧ l.length = n := by
  obtain ⟨cs, rfl, hl, fuel, hf⟩ := agg_array ht hval h
  obtain ⟨_, hi⟩ := trod_elems ht hf
  rw [hc] at hi
  have key : ∀ i, i < n → ∃ x : BitVec 8, cs[i]? = some (.int .u8 (uv x)) := by
    intro i h
    obtain ⟨m, y, h1⟩ := hi i h
    rw [Nat.mul_one] at h1
    obtain ⟨x, h2⟩ := cell_u8 he h1
    exact ⟨x, take_one h2⟩
  have pick : ∀ k, k ≤ n → ∃ l : List (BitVec 8), l.length = k ∧ ∀ i, i < k → cs[i]? = (by8 l)[i]? := by
    intro k
    induction k with
    | zero => exact fun _ => ⟨[], rfl, fun i h => absurd h (by omega)⟩
    | succ k ih =>
      intro hk
      obtain ⟨l, h1, h2⟩ := ih (by omega)
      obtain ⟨x, h3⟩ := key k (by omega)
      refine ⟨l ++ [x], by simp [h1], fun i h => ?_⟩
      rw [by8_append]
      by_cases e : i = k
      · subst e; rw [h3, List.getElem?_append_right (by simp [h1])]; simp [by8, h1]
      · rw [List.getElem?_append_left (by simp [h1]; omega)]; exact h2 i (by omega)
  obtain ⟨l, h1, h2⟩ := pick n (Nat.le_refl _)
  refine ⟨l, ?_, h1⟩
  have e : cs = by8 l := by
    apply List.ext_getElem?
    intro i
    by_cases h : i < n
    · exact h2 i h
    · rw [List.getElem?_eq_none (by omega), List.getElem?_eq_none (by simp [h1]; omega)]
  rw [e]
end
end Go.Proofs.YtabfmhlhdebcpaaGreatDoor
