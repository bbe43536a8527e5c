/- The reference's Plain. -/
import Derived.Test.YthnnopjakpjoeaaDoorWireMath2
import Derived.Test.YthnnopjakpjoeaaDoorBase
import Derived.Deep.DeepCutAuto
namespace Go.Proofs.YthnnopjakpjoeaaDoor
open Go.RowKit
set_option linter.unusedVariables false
set_option linter.unusedSimpArgs false
theorem all_take {α : Type} (p : α → Bool) (l : List α) (k : Nat) (x : α) (h : l[k]? = some x) : (l.take (k + 1)).all p = ((l.take k).all p && p x) := by
  obtain ⟨hk, rfl⟩ := List.getElem?_eq_some_iff.1 h
  rw [List.take_succ_eq_append_getElem hk, List.all_append]; simp
theorem all_miss {α : Type} (p : α → Bool) (l : List α) (k : Nat) (x : α) (h : l[k]? = some x) (hp : p x = false) : l.all p = false := by
  obtain ⟨hk, rfl⟩ := List.getElem?_eq_some_iff.1 h
  rw [List.all_eq_false]; exact ⟨_, List.getElem_mem hk, by simpa using hp⟩
theorem rPlain_any (v : Value) (l : List (BitVec 8)) (b : Bool) (w : World) (hv : BytesV w v l) (hb : Wire.plain l = b) :
    Calls Tryd.prog 162 #[v] w fun e w' => e = .returned (.bool b) ∧ w = w' := by
  subst hb
  obtain ⟨a, c, rfl, -, hc, hm, hrow⟩ := hv
  have HROW := Lib.hid hrow; clear hrow
  have hm' : l.length ≤ 9223372036854775807 := by omega
  unfold Wire.plain
  go_enter Tryd.func162, Tryd.ntmps162
  go_wp2
  go_loop [3] (fun i => ∃ k : Nat, k ≤ l.length ∧ i = .int .i64 k ∧ Hid ((l.take k).all Wire.plainB = true)) (fun i => l.length - (intOf i).toNat)
  case atStart => exact ⟨0, by omega, rfl, rfl⟩
  case round =>
    obtain ⟨k, hk, rfl, hE⟩ := hrel
    by_cases hlt : k < l.length
    · obtain ⟨x, hx⟩ : ∃ x, l[k]? = some x := ⟨l[k], List.getElem?_eq_getElem hlt⟩
      obtain ⟨b, o, rfl, hcell⟩ := HROW.out.at (i := k) (v := .int .u8 (uv x)) (by rw [by8_get, hx]; rfl)
      have HS := Lib.hid (all_take Wire.plainB l k x hx)
      have HH := Lib.hid (all_miss Wire.plainB l k x hx)
      clear hx
      by_cases h32 : uv x < 32
      · have hz : Wire.plainB x = false := by unfold Wire.plainB; simp; omega
        have HZ := Lib.hid hz; clear hz
        have d1 : decide (uv x < 32) = true := decide_eq_true h32
        clear h32
        go_wp2
        go_ret
        exact ⟨by rw [HH.out HZ.out]; rfl, rfl⟩
      · have d1 : decide (uv x < 32) = false := decide_eq_false h32
        by_cases h126 : 126 < uv x
        · have hz : Wire.plainB x = false := by unfold Wire.plainB; simp; omega
          have HZ := Lib.hid hz; clear hz
          have d2 : decide (126 < uv x) = true := decide_eq_true h126
          clear h32 h126
          go_wp2
          go_ret
          exact ⟨by rw [HH.out HZ.out]; rfl, rfl⟩
        · have hz : Wire.plainB x = true := by unfold Wire.plainB; simp; omega
          have HZ := Lib.hid hz; clear hz
          have d2 : decide (126 < uv x) = false := decide_eq_false h126
          clear h32 h126
          go_wp2
          go_round
          case rel => exact ⟨k + 1, by omega, by go_num, Lib.hid (by rw [HS.out, hE.out, HZ.out]; rfl)⟩
          case measure => simp [intOf]; omega
    · obtain rfl : k = l.length := by omega
      have h1 := hE.out
      rw [List.take_length] at h1
      have H1 := Lib.hid h1; clear h1
      go_wp2
      go_ret
      exact ⟨by rw [H1.out]; rfl, rfl⟩
end Go.Proofs.YthnnopjakpjoeaaDoor
