/- Discovery: Decode; what known() reads. Printed by gendscv.py. -/
import Derived.Test.YtjcgdenkmmgmfaaGreatDoorDscU
import Derived.Test.YtjcgdenkmmgmfaaGreatDoorDscM
import Derived.Test.YtjcgdenkmmgmfaaGreatDoorDscO
import Derived.Test.YtjcgdenkmmgmfaaGreatDoorDscG
namespace Go.Proofs.YtjcgdenkmmgmfaaGreatDoor
open Go.RowKit Go.Shelf Dsc
set_option linter.unusedVariables false
set_option linter.unusedSimpArgs false
theorem Decode_at (v : Value) (b : List (BitVec 8)) (E : Int) (g : BitVec 64) (L : List Rec) (w : World) (hv : BytesV w v b) (hE : decE b = E) (hG : decG b = g) (hL : decL b = L) :
    Calls Tryz.prog 18 #[v] w fun e w' => ∃ lv, e = .returned (.tuple #[.agg #[.int .u64 (uv g), lv], .int .i64 E]) ∧ w'.ownsRow (w.heap.size + 2) 37 10 lv L.length (L.flatMap Rec.cells) ∧ Below w.heap.size w w' := by
  subst hE; subst hG; subst hL
  by_cases hp : past b = true
  · exact Decode_past v b w hv hp
  · have hp : past b = false := by simpa using hp
    have hne : decE b ≠ 0 := fun h => by
      obtain ⟨h1, h2, h3, h4⟩ := decE_ok h
      have : past b = true := by
        unfold past
        rw [h1, decide_eq_true h2, decide_eq_true h3, decide_eq_true (show 1024 ≤ b.length by omega)]; rfl
      rw [hp] at this; cases this
    have e1 : decG b = 0#64 := by unfold decG; rw [if_neg hne]
    have e2 : decL b = [] := by unfold decL; rw [if_neg hne]
    rw [e1, e2]
    refine (Decode_pre v b _ w hv rfl hp).mono ?_
    rintro e w' ⟨rfl, hb⟩
    exact ⟨.slice none 0 0, rfl, World.ownsRow_nil _ _ _ _, hb⟩
namespace Dsc
def kr : Rec := ⟨3#8, 0#8, false, false, 0#16, 65535#16, 32#16, [], [115#8], [97#8]⟩
theorem rep_two : List.replicate 1024 0#8 = 0#8 :: 0#8 :: List.replicate 1022 0#8 := by
  rw [show 1024 = 1022 + 1 + 1 from rfl, List.replicate_succ, List.replicate_succ]
theorem rep_1022 : List.replicate 1022 0#8 = [0#8, 0#8, 0#8, 0#8, 0#8, 0#8, 0#8, 0#8, 0#8, 0#8, 0#8, 0#8, 0#8, 0#8] ++ List.replicate 1008 0#8 := by
  rw [show 1022 = 14 + 1008 from rfl, ← List.replicate_append_replicate]; rfl
theorem k_log : logR 258#64 [] = ((List.replicate 1024 0#8).set 0 2#8).set 1 1#8 := by
  rw [rep_two]
  show logB 258#64 [] = 2#8 :: 1#8 :: List.replicate 1022 0#8
  rw [rep_1022]
  unfold logB head
  have e1 : Wire.le 258#64 8 = [2#8, 1#8, 0#8, 0#8, 0#8, 0#8, 0#8, 0#8] := by decide
  have e2 : Wire.le (BitVec.ofNat 64 ([] : List Rec).length) 8 = [0#8, 0#8, 0#8, 0#8, 0#8, 0#8, 0#8, 0#8] := by decide
  rw [e1, e2]
  generalize List.replicate 1008 0#8 = z
  rw [List.map_nil, List.flatten_nil, List.append_nil]
  rfl
theorem k_zero : logB 0#64 [] = List.replicate 1024 0#8 := by
  rw [rep_two, rep_1022]
  unfold logB head
  have e2 : Wire.le 0#64 8 = [0#8, 0#8, 0#8, 0#8, 0#8, 0#8, 0#8, 0#8] := by decide
  have e3 : Wire.le (BitVec.ofNat 64 ([] : List Rec).length) 8 = [0#8, 0#8, 0#8, 0#8, 0#8, 0#8, 0#8, 0#8] := by decide
  rw [e2, e3]
  generalize List.replicate 1008 0#8 = z
  rw [List.map_nil, List.flatten_nil, List.append_nil]
  rfl
theorem k_dec : decE (List.replicate 1024 0#8) = 0 ∧ decG (List.replicate 1024 0#8) = 0#64 ∧ decL (List.replicate 1024 0#8) = [] := by
  have := dec_log (g := 0#64) (rs := []) rfl
  rw [k_zero] at this
  exact this
theorem k_short : decE (List.replicate 1023 0#8) = 4 := by
  unfold decE; rw [if_pos (by rw [List.length_replicate]; omega)]
theorem k_add1 : addE [] kr [[104#8]] = 0 := by decide
theorem k_add2 : addE [⟨kr, [[104#8]]⟩] kr [] = 11 := by decide
theorem k_see1 : seenE [104#8] = 0 ∧ seenR [⟨kr, [[104#8]]⟩] [104#8] = [kr] := by constructor <;> rfl
theorem k_see2 : seenE [103#8] = 0 ∧ seenR [⟨kr, [[104#8]]⟩] [103#8] = [] := by constructor <;> rfl
end Dsc
end Go.Proofs.YtjcgdenkmmgmfaaGreatDoor
