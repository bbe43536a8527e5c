/- The arguments of WireReads and WireWrites, opened. (Printed by gen_openl.py.) -/
import Derived.Test.YteicmbapipnbjaaDoorOpenG
import Derived.Test.YteicmbapipnbjaaDoorWireF
import Derived.Test.YteicmbapipnbjaaDoorWireD
namespace Go.Proofs.YteicmbapipnbjaaDoor
open Go.ChangeShapes Go.WideShapes Go.ChangeAt Go.RowKit
set_option linter.unusedVariables false
set_option linter.unusedSimpArgs false
structure LookT where
  k : Int
  n : Int
  s : Value
def LookT.cells (x : LookT) : List Value := [.int .i64 x.k, .int .i64 x.n, x.s]
def LookT.R (w : World) (x : LookT) : Prop := I64 x.k ∧ I64 x.n ∧ (∃ xs, SliceV w (fun y : Int => [.int .i64 y]) x.s xs ∧ ∀ y ∈ xs, I64 y)
theorem LookT.cells_len : ∀ y, (LookT.cells y).length = 3 := fun _ => rfl
set_option maxRecDepth 100000 in
theorem opens_LookT (w : World) : Opens Tryd.prog w 68 LookT LookT.cells (LookT.R w) := by
  intro H enc sp held fuel cs x h
  obtain ⟨hl, hfs⟩ := trod_fields Tryd.underlying68 h
  rw [show Tryd.prog.cellsOf 68 = 3 by kernel_rfl] at hl
  obtain ⟨y0, a0, r0⟩ := opens_field hfs 0 _ rfl 0 1 rfl (by kernel_rfl) (opens_i64 Tryd.underlying3)
  obtain ⟨y1, a1, r1⟩ := opens_field hfs 1 _ rfl 1 1 rfl (by kernel_rfl) (opens_i64 Tryd.underlying3)
  obtain ⟨y2, a2, r2⟩ := opens_field hfs 2 _ rfl 2 1 rfl (by kernel_rfl) ((opens_slice (k := 1) Tryd.underlying53 (by kernel_rfl) (by decide) (fun _ => rfl) (opens_i64 Tryd.underlying3)))
  have e := (glue a0 (by decide : 0 + 1 = 1) (glue a1 (by decide : 1 + 1 = 2) (glue a2 (by decide : 2 + 1 = 3) (glue_end hl))))
  rw [List.drop_zero] at e
  exact ⟨⟨y0, y1, y2⟩, e, ⟨r0, r1, r2⟩⟩
structure WFT where
  v : BitVec 64
  n : Int
def WFT.cells (x : WFT) : List Value := [.int .u64 (uv x.v), .int .i64 x.n]
def WFT.R (w : World) (x : WFT) : Prop := True ∧ I64 x.n
theorem WFT.cells_len : ∀ y, (WFT.cells y).length = 2 := fun _ => rfl
set_option maxRecDepth 100000 in
theorem opens_WFT (w : World) : Opens Tryd.prog w 56 WFT WFT.cells (WFT.R w) := by
  intro H enc sp held fuel cs x h
  obtain ⟨hl, hfs⟩ := trod_fields Tryd.underlying56 h
  rw [show Tryd.prog.cellsOf 56 = 2 by kernel_rfl] at hl
  obtain ⟨y0, a0, r0⟩ := opens_field hfs 0 _ rfl 0 1 rfl (by kernel_rfl) (opens_u64 Tryd.underlying22)
  obtain ⟨y1, a1, r1⟩ := opens_field hfs 1 _ rfl 1 1 rfl (by kernel_rfl) (opens_i64 Tryd.underlying3)
  have e := (glue a0 (by decide : 0 + 1 = 1) (glue a1 (by decide : 1 + 1 = 2) (glue_end hl)))
  rw [List.drop_zero] at e
  exact ⟨⟨y0, y1⟩, e, ⟨r0, r1⟩⟩
structure ActT where
  k : Int
  v : BitVec 64
  n : Int
  fs : Value
  b : Value
def ActT.cells (x : ActT) : List Value := [.int .i64 x.k, .int .u64 (uv x.v), .int .i64 x.n, x.fs, x.b]
def ActT.R (w : World) (x : ActT) : Prop := I64 x.k ∧ True ∧ I64 x.n ∧ (∃ xs, SliceV w WFT.cells x.fs xs ∧ ∀ y ∈ xs, (WFT.R w) y) ∧ (∃ xs, SliceV w (fun y : BitVec 8 => [.int .u8 (uv y)]) x.b xs ∧ ∀ y ∈ xs, (fun _ : BitVec 8 => True) y)
theorem ActT.cells_len : ∀ y, (ActT.cells y).length = 5 := fun _ => rfl
set_option maxRecDepth 100000 in
theorem opens_ActT (w : World) : Opens Tryd.prog w 78 ActT ActT.cells (ActT.R w) := by
  intro H enc sp held fuel cs x h
  obtain ⟨hl, hfs⟩ := trod_fields Tryd.underlying78 h
  rw [show Tryd.prog.cellsOf 78 = 5 by kernel_rfl] at hl
  obtain ⟨y0, a0, r0⟩ := opens_field hfs 0 _ rfl 0 1 rfl (by kernel_rfl) (opens_i64 Tryd.underlying3)
  obtain ⟨y1, a1, r1⟩ := opens_field hfs 1 _ rfl 1 1 rfl (by kernel_rfl) (opens_u64 Tryd.underlying22)
  obtain ⟨y2, a2, r2⟩ := opens_field hfs 2 _ rfl 2 1 rfl (by kernel_rfl) (opens_i64 Tryd.underlying3)
  obtain ⟨y3, a3, r3⟩ := opens_field hfs 3 _ rfl 3 1 rfl (by kernel_rfl) ((opens_slice (k := 2) Tryd.underlying49 (by kernel_rfl) (by decide) WFT.cells_len ((opens_WFT w))))
  obtain ⟨y4, a4, r4⟩ := opens_field hfs 4 _ rfl 4 1 rfl (by kernel_rfl) ((opens_slice (k := 1) Tryd.underlying23 (by kernel_rfl) (by decide) (fun _ => rfl) (opens_u8 Tryd.underlying5)))
  have e := (glue a0 (by decide : 0 + 1 = 1) (glue a1 (by decide : 1 + 1 = 2) (glue a2 (by decide : 2 + 1 = 3) (glue a3 (by decide : 3 + 1 = 4) (glue a4 (by decide : 4 + 1 = 5) (glue_end hl))))))
  rw [List.drop_zero] at e
  exact ⟨⟨y0, y1, y2, y3, y4⟩, e, ⟨r0, r1, r2, r3, r4⟩⟩
theorem IntsV.of_slice {w : World} {v : Value} {xs : List Int} (h : SliceV w (fun y => [Value.int .i64 y]) v xs) : IntsV w v xs := by
  obtain ⟨a, c, e, h0, h1, h2, h3⟩ := h
  rw [flat_one] at h3
  exact ⟨a, c, e, h0, h1, h2, h3⟩
theorem BytesV.of_slice {w : World} {v : Value} {xs : List (BitVec 8)} (h : SliceV w (fun y => [Value.int .u8 (uv y)]) v xs) : BytesV w v xs := by
  obtain ⟨a, c, e, h0, h1, h2, h3⟩ := h
  rw [flat_one] at h3
  exact ⟨a, c, e, h0, h1, h2, h3⟩
theorem FieldsV.of_slice {w : World} {v : Value} {xs : List WFT} (h : SliceV w WFT.cells v xs) : FieldsV w v (xs.map fun x => (x.v, x.n)) := by
  obtain ⟨a, c, e, h0, h1, h2, h3⟩ := h
  refine ⟨a, c, by rw [List.length_map]; exact e, h0, by rw [List.length_map]; exact h1, h2, ?_⟩
  have : fCells (xs.map fun x => (x.v, x.n)) = xs.flatMap WFT.cells := by
    clear e h0 h1 h2 h3
    unfold fCells
    induction xs with
    | nil => rfl
    | cons x xs ih => rw [List.map_cons, List.flatMap_cons, List.flatMap_cons, ih]; rfl
  rw [this]; exact h3
section
variable {H : Type} {enc : TypeId × Value → H} {w : World} {sp : Nat → Bool} {held : Bool} {r : Reach} {b0 : Nat} {v : Value} {d : DataW H} {ps : List MemPlace}
set_option maxRecDepth 100000 in
theorem open_looks (hval : Value.okWide Tryd.prog w r b0 65 v) (h : DataW.Trod enc Tryd.prog w 0 sp held 65 v d ps) : ∃ xs, SliceV w LookT.cells v xs ∧ ∀ y ∈ xs, LookT.R w y :=
  open_sliceG (k := 3) Tryd.underlying65 (by kernel_rfl) (by decide) LookT.cells_len (opens_LookT w) hval h
set_option maxRecDepth 100000 in
theorem open_acts (hval : Value.okWide Tryd.prog w r b0 72 v) (h : DataW.Trod enc Tryd.prog w 0 sp held 72 v d ps) : ∃ xs, SliceV w ActT.cells v xs ∧ ∀ y ∈ xs, ActT.R w y :=
  open_sliceG (k := 5) Tryd.underlying72 (by kernel_rfl) (by decide) ActT.cells_len (opens_ActT w) hval h
end
end Go.Proofs.YteicmbapipnbjaaDoor
