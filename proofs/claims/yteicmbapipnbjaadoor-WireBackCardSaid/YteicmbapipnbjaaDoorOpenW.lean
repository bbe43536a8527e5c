/- A slice of wire fields as an argument, opened. -/
import Derived.Test.YteicmbapipnbjaaDoorOpen2
import Derived.Test.YteicmbapipnbjaaDoorWireD
namespace Go.Proofs.YteicmbapipnbjaaDoor
open Go.ChangeShapes Go.WideShapes Go.ChangeAt Go.RowKit
set_option linter.unusedVariables false
set_option linter.unusedSimpArgs false
theorem add_block (a : Addr) (n : Nat) : (a.add n).block = a.block ∧ (a.add n).off = a.off + n := by
  unfold Addr.add
  split
  · rename_i h; subst h; exact ⟨rfl, rfl⟩
  · exact ⟨rfl, rfl⟩
theorem cells_two {w : World} {a : Addr} {cs : List Value} (h : w.cells? 0 a 2 = some cs) : ∃ v u, cs = [v, u] ∧ w.cell? a = some v ∧ w.cell? (a.add 1) = some u := by
  unfold World.cells? at h
  simp [List.range_succ] at h
  cases hc : w.cell? a with
  | none => simp [Addr.add, hc] at h
  | some v =>
    cases hd : w.cell? (a.add 1) with
    | none => simp [Addr.add] at h hd; simp [hc, hd] at h
    | some u => simp [Addr.add] at h hd; simp [hc, hd] at h; exact ⟨v, u, h.symm, rfl, rfl⟩
section
variable {H : Type} {enc : TypeId × Value → H} {w : World} {sp : Nat → Bool} {held : Bool} {r : Reach} {b0 : Nat} {v : Value} {d : DataW H} {ps : List MemPlace}
set_option maxRecDepth 100000 in
theorem open_wf {fuel : Nat} {c0 c1 : Value} {x : DataW H × List MemPlace} (h : DataW.trod enc Tryd.prog w 0 sp held fuel 56 [c0, c1] = some x) :
    ∃ f : WF, c0 = .int .u64 (uv f.1) ∧ c1 = .int .i64 f.2 := by
  obtain ⟨_, hfs⟩ := trod_fields Tryd.underlying56 h
  have k_int : Tryd.prog.cellsOf 3 = 1 := by kernel_rfl
  have k_uint64 : Tryd.prog.cellsOf 22 = 1 := by kernel_rfl
  obtain ⟨_, _, h0⟩ := hfs 0 _ rfl
  change DataW.trod enc Tryd.prog w 0 sp held _ 22 (([c0, c1].drop 0).take (Tryd.prog.cellsOf 22)) = _ at h0
  rw [k_uint64] at h0
  obtain ⟨x0, e0⟩ := cell_u64 Tryd.underlying22 h0
  obtain ⟨_, _, h1⟩ := hfs 1 _ rfl
  change DataW.trod enc Tryd.prog w 0 sp held _ 3 (([c0, c1].drop 1).take (Tryd.prog.cellsOf 3)) = _ at h1
  rw [k_int] at h1
  obtain ⟨x1, e1, r1⟩ := cell_i64 Tryd.underlying3 h1
  cases e0
  cases e1
  exact ⟨(x0, x1), rfl, rfl⟩
set_option maxRecDepth 100000 in
theorem open_fields (hval : Value.okWide Tryd.prog w r b0 49 v) (h : DataW.Trod enc Tryd.prog w 0 sp held 49 v d ps) : ∃ fl, FieldsV w v fl := by
  obtain ⟨a, l, c, rfl⟩ := okWide_slice Tryd.underlying49 hval
  obtain ⟨fuel, hf⟩ := h
  have hc : Tryd.prog.cellsOf 56 = 2 := by kernel_rfl
  rcases DataW.trod_slice Tryd.underlying49 hf with ⟨h0, _⟩ | ⟨a', len, cap, elems, rest, n, _, h0, _, _, hl, hm, hlen, hel, _⟩
  · simp [Value.cells] at h0
    obtain ⟨rfl, rfl, rfl⟩ := h0
    exact ⟨[], none, 0, rfl, fun _ => rfl, by simp, by simp, .inl rfl⟩
  · simp [Value.cells] at h0
    obtain ⟨rfl, rfl, rfl⟩ := h0
    have key : ∀ i, i < l → ∃ f : WF, w.cell? (a'.add (i * 2)) = some (.int .u64 (uv f.1)) ∧ w.cell? ⟨a'.block, a'.off + (i * 2 + 1), none⟩ = some (.int .i64 f.2) := by
      intro i hi
      have := hel i hi
      rw [List.getElem?_eq_getElem (by omega), hc] at this
      obtain ⟨cs, h1, h2⟩ := Option.bind_eq_some_iff.1 this
      obtain ⟨v, u, rfl, h3, h4⟩ := cells_two h1
      obtain ⟨f, rfl, rfl⟩ := open_wf h2
      have h5 := add_cell h4
      rw [(add_block a' (i * 2)).1, (add_block a' (i * 2)).2, Nat.add_assoc] at h5
      exact ⟨f, h3, h5⟩
    have pick : ∀ k, k ≤ l → ∃ fl : List WF, fl.length = k ∧ ∀ i, i < k → ∃ f : WF, fl[i]? = some f ∧ w.cell? (a'.add (i * 2)) = some (.int .u64 (uv f.1)) ∧ w.cell? ⟨a'.block, a'.off + (i * 2 + 1), none⟩ = some (.int .i64 f.2) := by
      intro k
      induction k with
      | zero => exact fun _ => ⟨[], rfl, fun i hi => absurd hi (by omega)⟩
      | succ k ih =>
        intro hk
        obtain ⟨fl, h1, h3⟩ := ih (by omega)
        obtain ⟨f, h4, h5⟩ := key k (by omega)
        refine ⟨fl ++ [f], by simp [h1], fun i hi => ?_⟩
        by_cases e : i = k
        · subst e; exact ⟨f, by simp [← h1], h4, h5⟩
        · obtain ⟨f', h6, h7, h8⟩ := h3 i (by omega)
          exact ⟨f', by rw [List.getElem?_append_left (by omega)]; exact h6, h7, h8⟩
    obtain ⟨fl, h1, h3⟩ := pick l (Nat.le_refl _)
    refine ⟨fl, some a', c, by rw [h1], by simp, by omega, by unfold maxLen at hm; omega, ?_⟩
    by_cases h0 : l = 0
    · have : fl = [] := List.length_eq_zero_iff.1 (by omega)
      subst this; exact .inl rfl
    · obtain ⟨f, _, h4, _⟩ := h3 0 (by omega)
      have hsp : a'.spot = none := add_spot (by simpa using h4)
      refine .inr ⟨a'.block, a'.off, ?_, fun i hi => ?_⟩
      · obtain ⟨b, o, s⟩ := a'; simp at hsp; subst hsp; rfl
      · rw [fCells_len] at hi
        obtain ⟨f, h5, h6, h7⟩ := h3 (i / 2) (by omega)
        obtain ⟨g0, g1⟩ := fCells_get fl (i / 2) f h5
        by_cases e : i % 2 = 0
        · have ei : i / 2 * 2 = i := by omega
          rw [ei] at g0 h6
          rw [g0]; exact add_cell h6
        · have ei : i / 2 * 2 + 1 = i := by omega
          rw [ei] at g1 h7
          rw [g1]; exact h7
end
end Go.Proofs.YteicmbapipnbjaaDoor
