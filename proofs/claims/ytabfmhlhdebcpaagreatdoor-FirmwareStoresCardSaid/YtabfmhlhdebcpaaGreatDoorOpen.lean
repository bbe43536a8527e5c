/- The arguments of a law, opened: what a reading says, in words of this proof. -/
import Derived.Test.YtabfmhlhdebcpaaGreatDoorMem
import Derived.ProofKit
import Derived.OpenShut
import Derived.ShutString
import Derived.ChangeOld
namespace Go.Proofs.YtabfmhlhdebcpaaGreatDoor
open Go.ChangeShapes Go.WideShapes Go.ChangeAt Go.RowKit
set_option linter.unusedVariables false
set_option linter.unusedSimpArgs false
section
variable {H : Type} {enc : TypeId × Value → H} {P : Program} {w : World} {sp : Nat → Bool} {held : Bool}

theorem uv_ofInt8 (n : Int) (h : (Lit.int .u8 n).wf = true) : n = uv (BitVec.ofInt 8 n) := by
  simp [Lit.wf, IntKind.min, IntKind.max, IntKind.signed, IntKind.bits] at h
  simp only [uv, BitVec.toNat_ofInt]; omega
theorem uv_ofInt16 (n : Int) (h : (Lit.int .u16 n).wf = true) : n = uv (BitVec.ofInt 16 n) := by
  simp [Lit.wf, IntKind.min, IntKind.max, IntKind.signed, IntKind.bits] at h
  simp only [uv, BitVec.toNat_ofInt]; omega
theorem uv_ofInt32 (n : Int) (h : (Lit.int .u32 n).wf = true) : n = uv (BitVec.ofInt 32 n) := by
  simp [Lit.wf, IntKind.min, IntKind.max, IntKind.signed, IntKind.bits] at h
  simp only [uv, BitVec.toNat_ofInt]; omega
theorem uv_ofInt64 (n : Int) (h : (Lit.int .u64 n).wf = true) : n = uv (BitVec.ofInt 64 n) := by
  simp [Lit.wf, IntKind.min, IntKind.max, IntKind.signed, IntKind.bits] at h
  simp only [uv, BitVec.toNat_ofInt]; omega
theorem i64_range (n : Int) (h : (Lit.int .i64 n).wf = true) : -9223372036854775808 ≤ n ∧ n ≤ 9223372036854775807 := by
  simp [Lit.wf, IntKind.min, IntKind.max, IntKind.signed, IntKind.bits] at h
  omega

theorem add_cell {a : Addr} {i : Nat} {v : Value} {w : World} (h : w.cell? (a.add i) = some v) : w.cell? ⟨a.block, a.off + i, none⟩ = some v := by
  have hs := World.cell?_spot h
  obtain ⟨b, o, s⟩ := a
  unfold Addr.add at h hs
  split at h
  · rename_i h0; subst h0
    simp at hs; subst hs; simpa using h
  · exact h
theorem add_spot {a : Addr} {v : Value} {w : World} (h : w.cell? (a.add 0) = some v) : a.spot = none := by
  have hs := World.cell?_spot h
  simpa [Addr.add] using hs

/-- The cells of a slice of bytes, as they are read. -/
theorem open_bytes_cs {t e : TypeId} (ht : P.underlying t = some (.slice e)) (he : P.underlying e = some (.int .u8)) (hc : P.cellsOf e = 1) {fuel : Nat} {cs : List Value} {x : DataW H × List MemPlace}
    (h : DataW.trod enc P w 0 sp held fuel t cs = some x) : ∃ v l, cs = [v] ∧ BytesV w v l := by
  rcases open_ints ht he hc h with ⟨hcs, _⟩ | ⟨a, len, cap, zs, hcs, _, hl, hm, hz, _, hcell, hwz⟩
  · exact ⟨_, [], hcs, BytesV.nil w⟩
  · have hlz : len ≤ zs.length := by rw [hz]; split <;> omega
    refine ⟨_, (zs.take len).map (BitVec.ofInt 8), hcs, some a, cap, ?_, by simp, ?_, by unfold maxLen at hm; omega, ?_⟩
    · simp only [List.length_map, List.length_take]; rw [Nat.min_eq_left hlz]
    · simp; omega
    · by_cases h0 : len = 0
      · subst h0; simp [by8, Row]
      · have hsp : a.spot = none := add_spot (hcell 0 (by omega))
        refine .inr ⟨a.block, a.off, ?_, fun i hi => ?_⟩
        · obtain ⟨b, o, s⟩ := a; simp at hsp; subst hsp; rfl
        · have hi1 : i < len := by rw [by8_length, List.length_map, List.length_take] at hi; omega
          have hi2 : i < zs.length := by omega
          rw [add_cell (hcell i (by omega)), by8_get]
          simp only [List.getElem?_map, List.getElem?_take_of_lt hi1, List.getElem?_eq_getElem hi2, Option.map_some, List.getD_eq_getElem?_getD, Option.getD_some]
          rw [← uv_ofInt8 _ (hwz _ (List.getElem_mem hi2))]

theorem open_bytes {t e : TypeId} (ht : P.underlying t = some (.slice e)) (he : P.underlying e = some (.int .u8)) (hc : P.cellsOf e = 1) {r : Reach} {b0 : Nat} {v : Value} {d : DataW H} {ps : List MemPlace}
    (hval : Value.okWide P w r b0 t v) (h : DataW.Trod enc P w 0 sp held t v d ps) : ∃ l, BytesV w v l := by
  obtain ⟨a, l, c, rfl⟩ := okWide_slice ht hval
  obtain ⟨fuel, hf⟩ := h
  obtain ⟨v', l', e1, e2⟩ := open_bytes_cs ht he hc hf
  simp [Value.cells] at e1
  subst e1
  exact ⟨l', e2⟩
theorem cells_one {a : Addr} {cs : List Value} (h : w.cells? 0 a 1 = some cs) : ∃ v, cs = [v] ∧ w.cell? a = some v := by
  unfold World.cells? at h
  simp [List.range_succ] at h
  cases hc : w.cell? a with
  | none => simp [Addr.add, hc] at h
  | some v => simp [Addr.add, hc] at h; exact ⟨v, h.symm, rfl⟩
theorem open_parts {t e b : TypeId} (ht : P.underlying t = some (.slice e)) (he : P.underlying e = some (.slice b)) (hb : P.underlying b = some (.int .u8)) (hc : P.cellsOf e = 1) (hc' : P.cellsOf b = 1) {r : Reach} {b0 : Nat} {v : Value} {d : DataW H} {ps : List MemPlace}
    (hval : Value.okWide P w r b0 t v) (h : DataW.Trod enc P w 0 sp held t v d ps) : ∃ ls, PartsV w v ls := by
  obtain ⟨a, l, c, rfl⟩ := okWide_slice ht hval
  obtain ⟨fuel, hf⟩ := h
  rcases DataW.trod_slice ht hf with ⟨h0, _⟩ | ⟨a', len, cap, elems, rest, n, _, h0, _, _, hl, hm, hlen, hel, _⟩
  · simp [Value.cells] at h0
    obtain ⟨rfl, rfl, rfl⟩ := h0
    exact ⟨[], none, 0, [], rfl, fun _ => rfl, by simp, by simp, .inl rfl, rfl, fun i l h => by simp at h⟩
  · simp [Value.cells] at h0
    obtain ⟨rfl, rfl, rfl⟩ := h0
    have key : ∀ i, i < l → ∃ v l', w.cell? (a'.add i) = some v ∧ BytesV w v l' := by
      intro i hi
      have := hel i hi
      rw [List.getElem?_eq_getElem (by omega), hc] at this
      obtain ⟨cs, h1, h2⟩ := Option.bind_eq_some_iff.1 this
      obtain ⟨v, rfl, h3⟩ := cells_one h1
      obtain ⟨v', l', e1, e2⟩ := open_bytes_cs he hb hc' h2
      simp at e1; subst e1
      exact ⟨v, l', by simpa using h3, e2⟩
    have pick : ∀ k, k ≤ l → ∃ (vs : List Value) (ls : List (List (BitVec 8))), vs.length = k ∧ ls.length = k ∧ ∀ i, i < k → ∃ v l', vs[i]? = some v ∧ ls[i]? = some l' ∧ w.cell? (a'.add i) = some v ∧ BytesV w v l' := by
      intro k
      induction k with
      | zero => exact fun _ => ⟨[], [], rfl, rfl, fun i hi => absurd hi (by omega)⟩
      | succ k ih =>
        intro hk
        obtain ⟨vs, ls, h1, h2, h3⟩ := ih (by omega)
        obtain ⟨v, l', h4, h5⟩ := key k (by omega)
        refine ⟨vs ++ [v], ls ++ [l'], by simp [h1], by simp [h2], fun i hi => ?_⟩
        by_cases e : i = k
        · subst e; exact ⟨v, l', by simp [← h1], by simp [← h2], h4, h5⟩
        · obtain ⟨v', l'', h6, h7, h8⟩ := h3 i (by omega)
          exact ⟨v', l'', by rw [List.getElem?_append_left (by omega)]; exact h6, by rw [List.getElem?_append_left (by omega)]; exact h7, h8⟩
    obtain ⟨vs, ls, h1, h2, h3⟩ := pick l (Nat.le_refl _)
    refine ⟨ls, some a', c, vs, by rw [h2], by simp, by omega, by unfold maxLen at hm; omega, ?_, by omega, fun i l' hi => ?_⟩
    · by_cases h0 : l = 0
      · exact .inl (List.length_eq_zero_iff.1 (by omega))
      · obtain ⟨v, _, _, _, h4, _⟩ := h3 0 (by omega)
        have hsp : a'.spot = none := add_spot h4
        refine .inr ⟨a'.block, a'.off, ?_, fun i hi => ?_⟩
        · obtain ⟨b, o, s⟩ := a'; simp at hsp; subst hsp; rfl
        · obtain ⟨v, _, h5, _, h6, _⟩ := h3 i (by omega)
          rw [add_cell h6, h5]
    · have hil : i < l := by have := (List.getElem?_eq_some_iff.1 hi).1; omega
      obtain ⟨v, l'', h5, h6, _, h7⟩ := h3 i hil
      rw [h6] at hi; simp at hi; subst hi
      exact ⟨v, h5, h7⟩
theorem open_u32 {t : TypeId} (ht : P.underlying t = some (.int .u32)) {r : Reach} {b0 : Nat} {v : Value} {d : DataW H} {ps : List MemPlace}
    (hval : Value.okWide P w r b0 t v) (h : DataW.Trod enc P w 0 sp held t v d ps) : ∃ x : BitVec 32, v = .int .u32 (uv x) := by
  obtain ⟨n, rfl, _, _, wn⟩ := open_int ht hval h
  exact ⟨_, congrArg _ (uv_ofInt32 n wn)⟩
theorem open_u16 {t : TypeId} (ht : P.underlying t = some (.int .u16)) {r : Reach} {b0 : Nat} {v : Value} {d : DataW H} {ps : List MemPlace}
    (hval : Value.okWide P w r b0 t v) (h : DataW.Trod enc P w 0 sp held t v d ps) : ∃ x : BitVec 16, v = .int .u16 (uv x) := by
  obtain ⟨n, rfl, _, _, wn⟩ := open_int ht hval h
  exact ⟨_, congrArg _ (uv_ofInt16 n wn)⟩
theorem open_u64 {t : TypeId} (ht : P.underlying t = some (.int .u64)) {r : Reach} {b0 : Nat} {v : Value} {d : DataW H} {ps : List MemPlace}
    (hval : Value.okWide P w r b0 t v) (h : DataW.Trod enc P w 0 sp held t v d ps) : ∃ x : BitVec 64, v = .int .u64 (uv x) := by
  obtain ⟨n, rfl, _, _, wn⟩ := open_int ht hval h
  exact ⟨_, congrArg _ (uv_ofInt64 n wn)⟩
theorem open_u8 {t : TypeId} (ht : P.underlying t = some (.int .u8)) {r : Reach} {b0 : Nat} {v : Value} {d : DataW H} {ps : List MemPlace}
    (hval : Value.okWide P w r b0 t v) (h : DataW.Trod enc P w 0 sp held t v d ps) : ∃ x : BitVec 8, v = .int .u8 (uv x) := by
  obtain ⟨n, rfl, _, _, wn⟩ := open_int ht hval h
  exact ⟨_, congrArg _ (uv_ofInt8 n wn)⟩
theorem open_i64 {t : TypeId} (ht : P.underlying t = some (.int .i64)) {r : Reach} {b0 : Nat} {v : Value} {d : DataW H} {ps : List MemPlace}
    (hval : Value.okWide P w r b0 t v) (h : DataW.Trod enc P w 0 sp held t v d ps) : ∃ n : Int, v = .int .i64 n ∧ -9223372036854775808 ≤ n ∧ n ≤ 9223372036854775807 := by
  obtain ⟨n, rfl, _, _, wn⟩ := open_int ht hval h
  exact ⟨_, rfl, i64_range n wn⟩
theorem open_boolv {t : TypeId} (ht : P.underlying t = some .bool) {r : Reach} {b0 : Nat} {v : Value} {d : DataW H} {ps : List MemPlace}
    (hval : Value.okWide P w r b0 t v) (h : DataW.Trod enc P w 0 sp held t v d ps) : ∃ b : Bool, v = .bool b := by
  obtain ⟨b, rfl, _, _⟩ := open_bool ht hval h
  exact ⟨_, rfl⟩
end
end Go.Proofs.YtabfmhlhdebcpaaGreatDoor
