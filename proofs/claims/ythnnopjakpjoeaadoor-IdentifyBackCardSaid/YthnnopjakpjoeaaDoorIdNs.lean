/- Namespaces as 80 numbers; identify.namespace. Printed by genns.py. -/
import Derived.Test.YthnnopjakpjoeaaDoorIdE
import Derived.Test.YthnnopjakpjoeaaDoorIdDec
namespace Go.Proofs.YthnnopjakpjoeaaDoor
open Go.RowKit Idn Go.ChangeShapes Go.WideShapes Go.ChangeAt
set_option linter.unusedVariables false
set_option linter.unusedSimpArgs false
namespace Idn
def nsSpec : Spec := [(0, .u64, 0), (8, .u64, 1), (16, .u64, 2), (24, .u8, 3), (25, .u8, 4), (26, .u8, 5), (27, .u8, 6), (28, .u8, 7), (29, .u8, 8), (30, .u8, 9), (31, .u8, 10), (34, .u16, 11), (36, .u16, 12), (38, .u16, 13), (92, .u32, 14), (120, .u64, 15), (104, .u8, 16), (105, .u8, 17), (106, .u8, 18), (107, .u8, 19), (108, .u8, 20), (109, .u8, 21), (110, .u8, 22), (111, .u8, 23), (112, .u8, 24), (113, .u8, 25), (114, .u8, 26), (115, .u8, 27), (116, .u8, 28), (117, .u8, 29), (118, .u8, 30), (119, .u8, 31), (128, .u16, 32), (130, .u8, 33), (131, .u8, 34), (132, .u16, 35), (134, .u8, 36), (135, .u8, 37), (136, .u16, 38), (138, .u8, 39), (139, .u8, 40), (140, .u16, 41), (142, .u8, 42), (143, .u8, 43), (144, .u16, 44), (146, .u8, 45), (147, .u8, 46), (148, .u16, 47), (150, .u8, 48), (151, .u8, 49), (152, .u16, 50), (154, .u8, 51), (155, .u8, 52), (156, .u16, 53), (158, .u8, 54), (159, .u8, 55), (160, .u16, 56), (162, .u8, 57), (163, .u8, 58), (164, .u16, 59), (166, .u8, 60), (167, .u8, 61), (168, .u16, 62), (170, .u8, 63), (171, .u8, 64), (172, .u16, 65), (174, .u8, 66), (175, .u8, 67), (176, .u16, 68), (178, .u8, 69), (179, .u8, 70), (180, .u16, 71), (182, .u8, 72), (183, .u8, 73), (184, .u16, 74), (186, .u8, 75), (187, .u8, 76), (188, .u16, 77), (190, .u8, 78), (191, .u8, 79)]
theorem nsSpec_len : nsSpec.length = 80 := by decide
/-- The cells of a namespace whose fields, in order, are these numbers. -/
def nsC (vs : List (BitVec 64)) : List Value := (nsSpec.zip vs).map fun p => p.1.2.1.val p.2
/-- 80 numbers, each as its field's kind holds it. -/
def NsOk (vs : List (BitVec 64)) : Prop := vs.length = 80 ∧ ∀ p ∈ nsSpec.zip vs, p.1.2.1.trunc p.2 = p.2
theorem nsC_len {vs : List (BitVec 64)} (h : vs.length = 80) : (nsC vs).length = 80 := by
  unfold nsC; rw [List.length_map, List.length_zip, nsSpec_len, h]; rfl
theorem nsSpec_at : ∀ j, j < 80 → ∃ s, nsSpec[j]? = some s ∧ s.2.2 = j ∧ s.1 + s.2.1.size ≤ 4096 := by
  have h : (List.range 80).all (fun j => match nsSpec[j]? with | some s => decide (s.2.2 = j) && decide (s.1 + s.2.1.size ≤ 4096) | none => false) = true := by decide +kernel
  intro j hj
  have := List.all_eq_true.1 h j (List.mem_range.2 hj)
  cases hs : nsSpec[j]? with
  | none => rw [hs] at this; simp at this
  | some s =>
    rw [hs] at this
    simp only [Bool.and_eq_true, decide_eq_true_eq] at this
    exact ⟨s, rfl, this.1, this.2⟩
theorem ns_fits {vs : List (BitVec 64)} (h : NsOk vs) : ∀ p ∈ nsSpec.zip vs, Fits (nsC vs) p := by
  intro p hp
  obtain ⟨i, hi, e⟩ := List.mem_iff_getElem.1 hp
  have hi80 : i < 80 := by rw [List.length_zip, nsSpec_len, h.1] at hi; omega
  have hz : (nsSpec.zip vs)[i]? = some p := by rw [List.getElem?_eq_getElem hi, e]
  obtain ⟨s, hs, h1, h2⟩ := nsSpec_at i hi80
  have hp1 : p.1 = s := by
    have h3 := (List.getElem?_zip_eq_some.1 hz).1
    rw [hs] at h3
    injection h3 with h3
    exact h3.symm
  refine ⟨?_, h.2 p hp, by rw [hp1]; exact h2⟩
  unfold nsC
  rw [List.getElem?_map, hp1, h1, hz]
  show some (p.1.2.1.val p.2) = _
  rw [hp1]
def nsFs (vs : List (BitVec 64)) : List (Nat × List (BitVec 8)) := fsOf nsSpec vs
theorem nsFs_in (vs : List (BitVec 64)) : ∀ q ∈ nsFs vs, q.1 + q.2.length ≤ zeros.length := by
  intro q hq
  unfold nsFs fsOf at hq
  obtain ⟨p, hp, rfl⟩ := List.mem_map.1 hq
  obtain ⟨i, hi, e⟩ := List.mem_iff_getElem.1 hp
  have hi80 : i < 80 := by rw [List.length_zip, nsSpec_len] at hi; omega
  obtain ⟨s, hs, h1, h2⟩ := nsSpec_at i hi80
  have hz : (nsSpec.zip vs)[i]? = some p := by rw [List.getElem?_eq_getElem hi, e]
  have h3 := (List.getElem?_zip_eq_some.1 hz).1
  rw [hs] at h3
  injection h3 with h3
  simp only [Wire.le_len, zeros_len]
  rw [← h3]; exact h2
/-- The structure of a namespace. -/
def nsB (vs : List (BitVec 64)) : List (BitVec 8) := Lay.lays zeros (nsFs vs)
theorem nsB_len (vs : List (BitVec 64)) : (nsB vs).length = 4096 := by unfold nsB; rw [Lay.lays_len (nsFs_in vs), zeros_len]
theorem apart_ns : apartB nsSpec = true := by decide +kernel
end Idn
end Go.Proofs.YthnnopjakpjoeaaDoor
