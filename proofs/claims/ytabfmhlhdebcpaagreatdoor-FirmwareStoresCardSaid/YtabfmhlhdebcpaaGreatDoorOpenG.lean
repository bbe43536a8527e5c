/- Opening arguments of any shape: what cells of a type hold, by small laws that are put together. -/
import Derived.Test.YtabfmhlhdebcpaaGreatDoorOpen2
import Derived.Test.YtabfmhlhdebcpaaGreatDoorBase
namespace Go.Proofs.YtabfmhlhdebcpaaGreatDoor
open Go.ChangeShapes Go.WideShapes Go.ChangeAt Go.RowKit
set_option linter.unusedVariables false
set_option linter.unusedSimpArgs false
/-- Cells of type t that can be read are f y for some y that is R. -/
def Opens (P : Program) (w : World) (t : TypeId) (α : Type) (f : α → List Value) (R : α → Prop) : Prop :=
  ∀ (H : Type) (enc : TypeId × Value → H) (sp : Nat → Bool) (held : Bool) (fuel : Nat) (cs : List Value) (x : DataW H × List MemPlace), DataW.trod enc P w 0 sp held fuel t cs = some x → ∃ y, cs = f y ∧ R y
/-- v is a slice whose elements are the xs, each in cells f. -/
def SliceV (w : World) {α : Type} (f : α → List Value) (v : Value) (xs : List α) : Prop :=
  ∃ a c, v = .slice a xs.length c ∧ (a = none → c = 0) ∧ xs.length ≤ c ∧ c ≤ 9223372036854775807 ∧ Row w a (xs.flatMap f)
theorem SliceV.below {w w' : World} {α : Type} {f : α → List Value} {v : Value} {xs : List α} (h : SliceV w f v xs) (hb : Below w.heap.size w w') : SliceV w' f v xs := by
  obtain ⟨a, c, e, h0, h1, h2, h3⟩ := h
  exact ⟨a, c, e, h0, h1, h2, h3.below hb⟩
theorem flat_len {α : Type} {f : α → List Value} {k : Nat} (hf : ∀ y, (f y).length = k) (xs : List α) : (xs.flatMap f).length = xs.length * k := by
  induction xs with
  | nil => simp
  | cons x xs ih => rw [List.flatMap_cons, List.length_append, ih, hf, List.length_cons, Nat.succ_mul, Nat.add_comm]
theorem flat_get {α : Type} {f : α → List Value} {k : Nat} (hf : ∀ y, (f y).length = k) (xs : List α) (i j : Nat) (x : α) (h : xs[i]? = some x) (hj : j < k) : (xs.flatMap f)[i * k + j]? = (f x)[j]? := by
  induction xs generalizing i with
  | nil => simp at h
  | cons y xs ih =>
    cases i with
    | zero => simp at h; subst h; rw [List.flatMap_cons, Nat.zero_mul, Nat.zero_add, List.getElem?_append_left (by rw [hf]; exact hj)]
    | succ i =>
      simp at h
      rw [List.flatMap_cons, List.getElem?_append_right (by rw [hf, Nat.succ_mul]; omega), hf, show (i + 1) * k + j - k = i * k + j by rw [Nat.succ_mul]; omega]
      exact ih i h
theorem flat_one {α : Type} (g : α → Value) (xs : List α) : xs.flatMap (fun y => [g y]) = xs.map g := by
  induction xs with
  | nil => rfl
  | cons x xs ih => rw [List.flatMap_cons, ih]; rfl
theorem cells_each {w : World} {a : Addr} {k : Nat} {cs : List Value} (h : w.cells? 0 a k = some cs) : cs.length = k ∧ ∀ i, i < k → w.cell? (a.add i) = cs[i]? := by
  obtain ⟨_, h1, h2⟩ := World.cells?_some h
  exact ⟨h1, h2⟩
theorem add_add_cell {w : World} {a : Addr} {i j : Nat} {v : Value} (h : w.cell? ((a.add i).add j) = some v) : w.cell? ⟨a.block, a.off + (i + j), none⟩ = some v := by
  have := add_cell h
  have e : (a.add i).block = a.block ∧ (a.add i).off = a.off + i := by
    unfold Addr.add
    split
    · rename_i h; subst h; exact ⟨rfl, rfl⟩
    · exact ⟨rfl, rfl⟩
  rw [e.1, e.2, Nat.add_assoc] at this
  exact this
section
variable {P : Program} {w : World} {t e : TypeId}
theorem opens_u8 (ht : P.underlying t = some (.int .u8)) : Opens P w t (BitVec 8) (fun y => [.int .u8 (uv y)]) (fun _ => True) :=
  fun _ _ _ _ _ _ _ h => let ⟨n, h1⟩ := cell_u8 ht h; ⟨n, h1, trivial⟩
theorem opens_u16 (ht : P.underlying t = some (.int .u16)) : Opens P w t (BitVec 16) (fun y => [.int .u16 (uv y)]) (fun _ => True) :=
  fun _ _ _ _ _ _ _ h => let ⟨n, h1⟩ := cell_u16 ht h; ⟨n, h1, trivial⟩
theorem opens_u32 (ht : P.underlying t = some (.int .u32)) : Opens P w t (BitVec 32) (fun y => [.int .u32 (uv y)]) (fun _ => True) :=
  fun _ _ _ _ _ _ _ h => let ⟨n, h1⟩ := cell_u32 ht h; ⟨n, h1, trivial⟩
theorem opens_u64 (ht : P.underlying t = some (.int .u64)) : Opens P w t (BitVec 64) (fun y => [.int .u64 (uv y)]) (fun _ => True) :=
  fun _ _ _ _ _ _ _ h => let ⟨n, h1⟩ := cell_u64 ht h; ⟨n, h1, trivial⟩
def I64 (n : Int) : Prop := -9223372036854775808 ≤ n ∧ n ≤ 9223372036854775807
theorem opens_i64 (ht : P.underlying t = some (.int .i64)) : Opens P w t Int (fun y => [.int .i64 y]) I64 :=
  fun _ _ _ _ _ _ _ h => let ⟨n, h1, h2⟩ := cell_i64 ht h; ⟨n, h1, h2⟩
theorem opens_bool (ht : P.underlying t = some .bool) : Opens P w t Bool (fun y => [.bool y]) (fun _ => True) :=
  fun _ _ _ _ _ _ _ h => let ⟨n, h1⟩ := cell_bool ht h; ⟨n, h1, trivial⟩
theorem strOf_of (s : ByteArray) : ∃ l, s = strOf l ∧ l.length = s.size := by
  refine ⟨s.data.toList.map UInt8.toBitVec, ?_, by simp⟩
  unfold strOf
  rw [List.map_map, show UInt8.ofBitVec ∘ UInt8.toBitVec = id from rfl, List.map_id]
theorem opens_str (ht : P.underlying t = some .string) : Opens P w t (List (BitVec 8)) (fun y => [.string (strOf y)]) (fun y => y.length ≤ 9223372036854775807) := by
  intro H enc sp held fuel cs x h
  obtain ⟨s, rfl, _, hs⟩ := DataW.trod_string ht h
  obtain ⟨l, rfl, hl⟩ := strOf_of s
  unfold maxLen at hs
  exact ⟨l, rfl, by omega⟩
/-- A slice: its one cell. -/
theorem opens_slice {α : Type} {f : α → List Value} {R : α → Prop} {k : Nat} (ht : P.underlying t = some (.slice e)) (hc : P.cellsOf e = k) (hk : 0 < k) (hf : ∀ y, (f y).length = k) (hel : Opens P w e α f R) :
    Opens P w t Value (fun v => [v]) (fun v => ∃ xs, SliceV w f v xs ∧ ∀ y ∈ xs, R y) := by
  intro H enc sp held fuel cs x h
  rcases DataW.trod_slice ht h with ⟨rfl, _⟩ | ⟨a, l, c, elems, rest, n, _, rfl, _, _, hl, hm, hlen, hat, _⟩
  · exact ⟨_, rfl, [], ⟨none, 0, rfl, fun _ => rfl, by simp, by simp, .inl rfl⟩, by simp⟩
  · refine ⟨_, rfl, ?_⟩
    have key : ∀ i, i < l → ∃ y : α, R y ∧ ∀ j, j < k → w.cell? ⟨a.block, a.off + (i * k + j), none⟩ = (f y)[j]? := by
      intro i hi
      have := hat i hi
      rw [List.getElem?_eq_getElem (by omega), hc] at this
      obtain ⟨cs, h1, h2⟩ := Option.bind_eq_some_iff.1 this
      obtain ⟨h3, h4⟩ := cells_each h1
      obtain ⟨y, rfl, h5⟩ := hel _ _ _ _ _ _ _ h2
      refine ⟨y, h5, fun j hj => ?_⟩
      have h6 := h4 j hj
      rw [List.getElem?_eq_getElem (by omega)] at h6 ⊢
      exact add_add_cell h6
    have spot : 0 < l → a.spot = none := by
      intro h0
      have := hat 0 h0
      rw [List.getElem?_eq_getElem (by omega), hc, Nat.zero_mul] at this
      obtain ⟨cs, h1, h2⟩ := Option.bind_eq_some_iff.1 this
      obtain ⟨h3, h4⟩ := cells_each h1
      have h6 := h4 0 hk
      rw [List.getElem?_eq_getElem (by omega)] at h6
      have := add_spot h6
      unfold Addr.add at this
      simpa using this
    have pick : ∀ m, m ≤ l → ∃ xs : List α, xs.length = m ∧ (∀ y ∈ xs, R y) ∧ ∀ i, i < m → ∃ y, xs[i]? = some y ∧ ∀ j, j < k → w.cell? ⟨a.block, a.off + (i * k + j), none⟩ = (f y)[j]? := by
      intro m
      induction m with
      | zero => exact fun _ => ⟨[], rfl, by simp, fun i hi => absurd hi (by omega)⟩
      | succ m ih =>
        intro hm
        obtain ⟨xs, h1, h2, h3⟩ := ih (by omega)
        obtain ⟨y, h4, h5⟩ := key m (by omega)
        refine ⟨xs ++ [y], by simp [h1], fun z hz => ?_, fun i hi => ?_⟩
        · rcases List.mem_append.1 hz with h | h
          · exact h2 z h
          · simp at h; subst h; exact h4
        · by_cases e : i = m
          · subst e; exact ⟨y, by simp [← h1], h5⟩
          · obtain ⟨z, h6, h7⟩ := h3 i (by omega)
            exact ⟨z, by rw [List.getElem?_append_left (by omega)]; exact h6, h7⟩
    obtain ⟨xs, h1, h2, h3⟩ := pick l (Nat.le_refl _)
    refine ⟨xs, ⟨some a, c, by rw [h1], by simp, by omega, by unfold maxLen at hm; omega, ?_⟩, h2⟩
    by_cases h0 : l = 0
    · have : xs = [] := List.length_eq_zero_iff.1 (by omega)
      subst this; exact .inl rfl
    · have hsp := spot (by omega)
      refine .inr ⟨a.block, a.off, ?_, fun i hi => ?_⟩
      · obtain ⟨b, o, s⟩ := a; simp at hsp; subst hsp; rfl
      · rw [flat_len hf, h1] at hi
        have hdiv : i / k < l := Nat.div_lt_of_lt_mul (by rw [Nat.mul_comm]; exact hi)
        obtain ⟨y, h5, h6⟩ := h3 (i / k) hdiv
        have hmod := Nat.mod_lt i hk
        have hi2 : i / k * k + i % k = i := by rw [Nat.mul_comm]; exact Nat.div_add_mod i k
        have h7 := h6 (i % k) hmod
        have h8 := flat_get hf xs (i / k) (i % k) y h5 hmod
        rw [hi2] at h7 h8
        rw [h7, h8]
/-- An array: its elements' cells in a row. -/
theorem opens_array {α : Type} {f : α → List Value} {R : α → Prop} {k n : Nat} (ht : P.underlying t = some (.array n e)) (hc : P.cellsOf e = k) (hn : P.cellsOf t = n * k) (hf : ∀ y, (f y).length = k) (hel : Opens P w e α f R) :
    Opens P w t (List α) (fun xs => xs.flatMap f) (fun xs => xs.length = n ∧ ∀ y ∈ xs, R y) := by
  intro H enc sp held fuel cs x h
  obtain ⟨hl, hat⟩ := trod_elems ht h
  rw [hn] at hl
  have pick : ∀ m, m ≤ n → ∃ xs : List α, xs.length = m ∧ (∀ y ∈ xs, R y) ∧ cs.take (m * k) = xs.flatMap f := by
    intro m
    induction m with
    | zero => exact fun _ => ⟨[], rfl, by simp, by simp⟩
    | succ m ih =>
      intro hm
      obtain ⟨xs, h1, h2, h3⟩ := ih (by omega)
      obtain ⟨_, _, h4⟩ := hat m (by omega)
      rw [hc] at h4
      obtain ⟨y, h5, h6⟩ := hel _ _ _ _ _ _ _ h4
      refine ⟨xs ++ [y], by simp [h1], fun z hz => ?_, ?_⟩
      · rcases List.mem_append.1 hz with h | h
        · exact h2 z h
        · simp at h; subst h; exact h6
      · rw [Nat.succ_mul, List.take_add, h3, h5, List.flatMap_append]; simp
  obtain ⟨xs, h1, h2, h3⟩ := pick n (Nat.le_refl _)
  refine ⟨xs, ?_, h1, h2⟩
  show cs = xs.flatMap f
  rw [← h3, List.take_of_length_le (by omega)]
/-- Cells that are read field by field. -/
theorem glue {cs a b : List Value} {o k m : Nat} (h1 : (cs.drop o).take k = a) (hm : o + k = m) (h2 : cs.drop m = b) : cs.drop o = a ++ b := by
  subst hm
  rw [← h1, ← h2, ← List.drop_drop, List.take_append_drop]
theorem glue_end {cs : List Value} {m : Nat} (h : cs.length = m) : cs.drop m = [] := List.drop_of_length_le (by omega)
theorem opens_field {α : Type} {f : α → List Value} {R : α → Prop} {fs : Array Field} {H : Type} {enc : TypeId × Value → H} {sp : Nat → Bool} {held : Bool} {cs : List Value} (hfs : ∀ (i : Nat) (f : Field), fs[i]? = some f → ∃ n y, DataW.trod enc P w 0 sp held n f.type ((cs.drop f.offset).take (P.cellsOf f.type)) = some y)
    (i : Nat) (fd : Field) (hi : fs[i]? = some fd) (o k : Nat) (ho : fd.offset = o) (hk : P.cellsOf fd.type = k) (hel : Opens P w fd.type α f R) : ∃ y, (cs.drop o).take k = f y ∧ R y := by
  obtain ⟨_, _, h⟩ := hfs i fd hi
  obtain ⟨y, h1, h2⟩ := hel _ _ _ _ _ _ _ h
  rw [ho, hk] at h1
  exact ⟨y, h1, h2⟩
end
section
variable {H : Type} {enc : TypeId × Value → H} {P : Program} {w : World} {sp : Nat → Bool} {held : Bool} {r : Reach} {b0 : Nat} {v : Value} {d : DataW H} {ps : List MemPlace} {t e : TypeId}
/-- A slice as an argument. -/
theorem open_sliceG {α : Type} {f : α → List Value} {R : α → Prop} {k : Nat} (ht : P.underlying t = some (.slice e)) (hc : P.cellsOf e = k) (hk : 0 < k) (hf : ∀ y, (f y).length = k) (hel : Opens P w e α f R)
    (hval : Value.okWide P w r b0 t v) (h : DataW.Trod enc P w 0 sp held t v d ps) : ∃ xs, SliceV w f v xs ∧ ∀ y ∈ xs, R y := by
  obtain ⟨a, l, c, rfl⟩ := okWide_slice ht hval
  obtain ⟨fuel, hf'⟩ := h
  obtain ⟨v', e1, h2⟩ := opens_slice ht hc hk hf hel _ _ _ _ _ _ _ hf'
  simp [Value.cells] at e1
  subst e1
  exact h2
/-- A string as an argument. -/
theorem open_strG (ht : P.underlying t = some .string) (hval : Value.okWide P w r b0 t v) (h : DataW.Trod enc P w 0 sp held t v d ps) : ∃ l, v = .string (strOf l) ∧ l.length ≤ 9223372036854775807 := by
  obtain ⟨s, rfl⟩ := okWide_string ht hval
  obtain ⟨fuel, hf'⟩ := h
  obtain ⟨l, e1, h2⟩ := opens_str ht _ _ _ _ _ _ _ hf'
  simp [Value.cells] at e1
  exact ⟨l, by rw [e1], h2⟩
/-- A struct as an argument. -/
theorem open_structG {fs : Array Field} {α : Type} {f : α → List Value} {R : α → Prop} (ht : P.underlying t = some (.struct fs)) (hel : Opens P w t α f R) (hval : Value.okWide P w r b0 t v) (h : DataW.Trod enc P w 0 sp held t v d ps) : ∃ y, v = .agg (f y).toArray ∧ R y := by
  obtain ⟨l, rfl, hl, fuel, hf⟩ := agg_struct ht hval h
  obtain ⟨y, h1, h2⟩ := hel _ _ _ _ _ _ _ hf
  exact ⟨y, by rw [h1], h2⟩
/-- An array as an argument. -/
theorem open_arrayG {n : Nat} {α : Type} {f : α → List Value} {R : α → Prop} (ht : P.underlying t = some (.array n e)) (hel : Opens P w t α f R) (hval : Value.okWide P w r b0 t v) (h : DataW.Trod enc P w 0 sp held t v d ps) : ∃ y, v = .agg (f y).toArray ∧ R y := by
  obtain ⟨l, rfl, hl, fuel, hf⟩ := agg_array ht hval h
  obtain ⟨y, h1, h2⟩ := hel _ _ _ _ _ _ _ hf
  exact ⟨y, by rw [h1], h2⟩
end
end Go.Proofs.YtabfmhlhdebcpaaGreatDoor
