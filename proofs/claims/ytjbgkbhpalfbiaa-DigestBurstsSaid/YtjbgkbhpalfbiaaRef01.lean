/- The walks of the reference's helpers: Own (a copy of bytes) and Same (equality of bytes). -/
import Derived.Test.YtjbgkbhpalfbiaaRows
import Derived.Test.YtjbgkbhpalfbiaaMem
namespace Go.Proofs.Ytjbgkbhpalfbiaa
open Go.RowKit
set_option linter.unusedVariables false
set_option linter.unusedSimpArgs false

theorem bytesOk : ElemOk Try.prog 22 5 (.int .u8 0) 1 1 :=
  ⟨Try.underlying22, info_parts (by kernel_rfl), rfl, by decide⟩

theorem Own_any (v : Value) (l : List (BitVec 8)) (w : World) (hv : BytesV w v l) (hs : l.length ≤ 140737488355328) :
    Calls Try.prog 11 #[v] w fun e w' => ∃ u, e = .returned u ∧ w'.ownsRow w.heap.size 5 1 u l.length (by8 l) ∧ Below w.heap.size w w' := by
  obtain ⟨a, c, rfl, h0, h1, h2, h3⟩ := hv
  go_enter Try.func11, Try.ntmps11
  go_wp2_with (at_builtin; refine app_law bytesOk rfl _ _ rfl w.heap.size (.slice none 0 0) 0 [] rfl (World.ownsRow_nil _ _ _ _) a l.length c (by8 l) rfl h0 h1 h3 (by simp) (by8_one l) (by omega) (by omega) (Nat.le_refl _) ?_; intro v' w1 hown hgrow _; simp only [Nat.zero_add, List.nil_append] at hown)
  go_ret
  exact ⟨_, rfl, hown, (Below.refl _ _).grown hgrow (Nat.le_refl _) (by intro k hk; simp [Value.ownBlock] at hk)⟩

/-- The string of bytes. -/
def strOf (l : List (BitVec 8)) : ByteArray := ⟨(l.map UInt8.ofBitVec).toArray⟩
theorem strOf_toList (l : List (BitVec 8)) : (strOf l).toList = l.map UInt8.ofBitVec := ByteArray.toList_mk _
theorem strOf_beq (l m : List (BitVec 8)) : ((strOf l).toList == (strOf m).toList) = (l == m) := by
  rw [strOf_toList, strOf_toList]
  by_cases h : l = m
  · subst h; simp
  · have : l.map UInt8.ofBitVec ≠ m.map UInt8.ofBitVec := fun e => h (by
      have := congrArg (List.map UInt8.toBitVec) e
      simpa [List.map_map, Function.comp_def] using this)
    rw [beq_false_of_ne this, beq_false_of_ne h]
theorem run_string {w : World} {v : Value} {l : List (BitVec 8)} (hv : BytesV w v l) : (convert 22 9 v).run Try.prog w = .ok (.string (strOf l)) w := by
  obtain ⟨a, c, rfl, h0, h1, h2, h3⟩ := hv
  cases a with
  | none =>
    have hc := h0 rfl
    have : l = [] := List.length_eq_zero_iff.1 (by omega)
    subst this
    exact run_convert_bytes_nil (P := Try.prog) w _ _ Try.underlying22 Try.underlying5 _ _ _ Try.underlying9
  | some ad =>
    have := run_convert_bytes_back (P := Try.prog) w 22 9 5 ad c (l.map UInt8.ofBitVec) Try.underlying22 Try.underlying5 Try.underlying9 (by
      intro j hj
      simp only [List.length_map] at hj
      obtain ⟨b, o, e1, e2⟩ := h3.at (i := j) (v := .int .u8 (uv l[j])) (by rw [by8_get, List.getElem?_eq_getElem hj]; rfl)
      cases e1
      have e3 : w.cell? ((⟨b, o, none⟩ : Addr).add j) = some (.int .u8 (uv l[j])) := by
        unfold Addr.add; split
        · rename_i h0; subst h0; simpa using e2
        · exact e2
      rw [e3]; simp [uv])
    simp only [List.length_map] at this
    exact this
theorem Same_any (v u : Value) (l m : List (BitVec 8)) (w : World) (hv : BytesV w v l) (hu : BytesV w u m) :
    Calls Try.prog 14 #[v, u] w fun e w' => e = .returned (.bool (l == m)) ∧ w = w' := by
  have h1 := run_string hv
  have h2 := run_string hu
  have h3 := strOf_beq l m
  obtain ⟨a, c, rfl, _, _, _, _⟩ := hv
  obtain ⟨a', c', rfl, _, _, _, _⟩ := hu
  go_enter Try.func14, Try.ntmps14
  go_wp2
  go_ret
  exact ⟨rfl, rfl⟩
end Go.Proofs.Ytjbgkbhpalfbiaa
