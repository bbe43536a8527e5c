/- What all walks of this seat stand on: slices of bytes of this program, strings of bytes. -/
import Derived.Test.YtabfmhlhdebcpaaGreatDoorRows
import Derived.Test.YtabfmhlhdebcpaaGreatDoorMem
import Derived.Test.YtabfmhlhdebcpaaGreatDoorRegion
import Derived.Lib.AppendZeros
namespace Go.Proofs.YtabfmhlhdebcpaaGreatDoor
open Go.RowKit
set_option linter.unusedVariables false
set_option linter.unusedSimpArgs false

theorem bytesOk : ElemOk Tryz.prog 42 5 (.int .u8 0) 1 1 :=
  ⟨Tryz.underlying42, info_parts (by kernel_rfl), rfl, by decide⟩

/-- The string of bytes. -/
def strOf (l : List (BitVec 8)) : ByteArray := ⟨(l.map UInt8.ofBitVec).toArray⟩
theorem strOf_toList (l : List (BitVec 8)) : (strOf l).toList = l.map UInt8.ofBitVec := ByteArray.toList_mk _
theorem strOf_beq (l m : List (BitVec 8)) : ((strOf l).toList == (strOf m).toList) = (l == m) := by
  rw [strOf_toList, strOf_toList]
  by_cases h : l = m
  · subst h; simp
  · have : l.map UInt8.ofBitVec ≠ m.map UInt8.ofBitVec := fun e => h (by
      have := congrArg (List.map UInt8.toBitVec) e
      simpa [List.map_map, Function.comp_def] using this)
    rw [beq_false_of_ne this, beq_false_of_ne h]
theorem run_string {w : World} {v : Value} {l : List (BitVec 8)} (hv : BytesV w v l) : (convert 42 9 v).run Tryz.prog w = .ok (.string (strOf l)) w := by
  obtain ⟨a, c, rfl, h0, h1, h2, h3⟩ := hv
  cases a with
  | none =>
    have hc := h0 rfl
    have : l = [] := List.length_eq_zero_iff.1 (by omega)
    subst this
    exact run_convert_bytes_nil (P := Tryz.prog) w _ _ Tryz.underlying42 Tryz.underlying5 _ _ _ Tryz.underlying9
  | some ad =>
    have := run_convert_bytes_back (P := Tryz.prog) w 42 9 5 ad c (l.map UInt8.ofBitVec) Tryz.underlying42 Tryz.underlying5 Tryz.underlying9 (by
      intro j hj
      simp only [List.length_map] at hj
      obtain ⟨b, o, e1, e2⟩ := h3.at (i := j) (v := .int .u8 (uv l[j])) (by rw [by8_get, List.getElem?_eq_getElem hj]; rfl)
      cases e1
      have e3 : w.cell? ((⟨b, o, none⟩ : Addr).add j) = some (.int .u8 (uv l[j])) := by
        unfold Addr.add; split
        · rename_i h0; subst h0; simpa using e2
        · exact e2
      rw [e3]; simp [uv])
    simp only [List.length_map] at this
    exact this
end Go.Proofs.YtabfmhlhdebcpaaGreatDoor
