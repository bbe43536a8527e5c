/- The reference's Zeros. -/
import Derived.Test.YteicmbapipnbjaaDoorWireM
import Derived.Test.YteicmbapipnbjaaDoorWireG
namespace Go.Proofs.YteicmbapipnbjaaDoor
open Go.RowKit
set_option linter.unusedVariables false
set_option linter.unusedSimpArgs false
theorem rZeros_any (v : Value) (l : List (BitVec 8)) (w : World) (hv : BytesV w v l) :
    Calls Tryd.prog 62 #[v] w fun e w' => e = .returned (.bool (!(l.any nonzero))) ∧ w = w' := by
  obtain ⟨a, c, rfl, _, _, hc, hr⟩ := hv
  have hm : l.length ≤ 9223372036854775807 := by omega
  have R := Lib.hid hr; clear hr
  go_enter Tryd.func62, Tryd.ntmps62
  go_wp2
  go_loopw [3] (fun i wr => ∃ k : Nat, k ≤ l.length ∧ i = .int .i64 k ∧ Hid ((l.take k).any nonzero = false) ∧ wr = w) (fun i _ => l.length - (intOf i).toNat)
  case atStart => exact ⟨0, by omega, rfl, rfl, rfl⟩
  case round =>
    obtain ⟨k, hk, rfl, hz, rfl⟩ := hrel
    by_cases hlt : k < l.length
    · obtain ⟨x, hx⟩ : ∃ x, l[k]? = some x := ⟨l[k], List.getElem?_eq_getElem hlt⟩
      have hb : (by8 l)[k]? = some (.int .u8 (uv x)) := by rw [by8_get, hx]; rfl
      obtain ⟨b, o, rfl, c0⟩ := R.out.at hb
      have ht : l.take (k + 1) = l.take k ++ [x] := by
        obtain ⟨h1, rfl⟩ := List.getElem?_eq_some_iff.1 hx
        exact List.take_succ_eq_append_getElem h1
      have HT := Lib.hid ht; have HX := Lib.hid hx; clear hb ht hx
      by_cases h0 : x = 0#8
      · subst h0
        go_wp2
        go_roundw
        case rel => exact ⟨k + 1, by omega, by go_num, Lib.hid (by rw [HT.out, List.any_append, hz.out]; decide), trivial⟩
        case measure => simp [intOf]; omega
      · have hq : (uv x != 0) = true := by
          have := uv_pos x h0
          simp; omega
        have hn : l.any nonzero = true := List.any_eq_true.2 ⟨x, List.mem_of_getElem? HX.out, hq⟩
        have HN := Lib.hid hn; clear hn h0
        go_wp2
        go_ret
        exact ⟨by rw [HN.out]; rfl, rfl⟩
    · obtain rfl : k = l.length := by omega
      have hn := hz.out
      rw [List.take_length] at hn
      have HN := Lib.hid hn; clear hn
      go_wp2
      go_ret
      exact ⟨by rw [HN.out]; rfl, rfl⟩
end Go.Proofs.YteicmbapipnbjaaDoor
