/- The walks of package digest: the updates over parts. -/
import Derived.Test.YtpobkgkjfebhgaaDigestB
namespace Go.Proofs.Ytpobkgkjfebhgaa
open Go.RowKit
set_option linter.unusedVariables false
set_option linter.unusedSimpArgs false

/-- A table in memory, for 32 bits and for 16. -/
def Tab32 (w : World) (T : Nat) : Prop := ∀ i : BitVec 8, w.cell? ⟨T, nv i, none⟩ = some (.int .u32 (uv (Dig.r8 (i.setWidth 32))))
def Tab16 (w : World) (T : Nat) : Prop := ∀ i : BitVec 8, w.cell? ⟨T, nv i, none⟩ = some (.int .u16 (uv (Dig.l8 (i.setWidth 16 <<< 8))))

def fl32 (s : BitVec 32) (ls : List (List (BitVec 8))) : BitVec 32 := ls.foldl (fun s l => l.foldl Dig.ps32 s) s
theorem fl32_take (s : BitVec 32) (ls : List (List (BitVec 8))) (k : Nat) (l : List (BitVec 8)) (h : ls[k]? = some l) : fl32 s (ls.take (k + 1)) = l.foldl Dig.ps32 (fl32 s (ls.take k)) := by
  obtain ⟨hk, rfl⟩ := List.getElem?_eq_some_iff.1 h
  rw [List.take_succ_eq_append_getElem hk, fl32, List.foldl_append]; rfl
theorem fo32_take (s : BitVec 32) (l : List (BitVec 8)) (k : Nat) (x : BitVec 8) (h : l[k]? = some x) : (l.take (k + 1)).foldl Dig.ps32 s = Dig.ps32 ((l.take k).foldl Dig.ps32 s) x := by
  obtain ⟨hk, rfl⟩ := List.getElem?_eq_some_iff.1 h
  rw [List.take_succ_eq_append_getElem hk, List.foldl_append]; rfl

def fl16 (s : BitVec 16) (ls : List (List (BitVec 8))) : BitVec 16 := ls.foldl (fun s l => l.foldl Dig.ps16 s) s
theorem fl16_take (s : BitVec 16) (ls : List (List (BitVec 8))) (k : Nat) (l : List (BitVec 8)) (h : ls[k]? = some l) : fl16 s (ls.take (k + 1)) = l.foldl Dig.ps16 (fl16 s (ls.take k)) := by
  obtain ⟨hk, rfl⟩ := List.getElem?_eq_some_iff.1 h
  rw [List.take_succ_eq_append_getElem hk, fl16, List.foldl_append]; rfl
theorem fo16_take (s : BitVec 16) (l : List (BitVec 8)) (k : Nat) (x : BitVec 8) (h : l[k]? = some x) : (l.take (k + 1)).foldl Dig.ps16 s = Dig.ps16 ((l.take k).foldl Dig.ps16 s) x := by
  obtain ⟨hk, rfl⟩ := List.getElem?_eq_some_iff.1 h
  rw [List.take_succ_eq_append_getElem hk, List.foldl_append]; rfl

theorem updated16_any (s : BitVec 16) (v : Value) (ls : List (List (BitVec 8))) (T : Nat) (w : World) (hp : PartsV w v ls) (ht : Tab16 w T) :
    Calls Try.prog 42 #[.int .u16 (uv s), v, .func (.func 43) #[] #[.pointer (some ⟨T, 0, none⟩)]] w fun e w' => e = .returned (.int .u16 (uv (fl16 s ls))) ∧ w = w' := by
  obtain ⟨a, c, vs, rfl, _, hc, hm, hrow, hl, hparts⟩ := hp
  have hm' : ls.length ≤ 9223372036854775807 := by omega
  go_enter Try.func42, Try.ntmps42
  go_wp2
  go_loop [0, 13] (fun s' i => ∃ k : Nat, k ≤ ls.length ∧ i = .int .i64 k ∧ s' = .int .u16 (uv (fl16 s (ls.take k)))) (fun _ i => ls.length - (intOf i).toNat)
  case atStart => exact ⟨0, by omega, rfl, rfl⟩
  case round =>
    obtain ⟨k, hk, rfl, rfl⟩ := hrel
    by_cases hlt : k < ls.length
    · obtain ⟨l, hlk⟩ : ∃ l, ls[k]? = some l := ⟨ls[k], List.getElem?_eq_getElem hlt⟩
      obtain ⟨u, hu, b, c2, rfl, _, hc2, hm2, hrow2⟩ := hparts k l hlk
      obtain ⟨bb, oo, rfl, hcell⟩ := hrow.at hu
      have hm2' : l.length ≤ 9223372036854775807 := by omega
      have HF := Lib.hid (fl16_take s ls k l hlk)
      have HLK := Lib.hid hlk; clear hlk
      have HU := Lib.hid hu; clear hu
      have HROW := Lib.hid hrow; clear hrow
      have HROW2 := Lib.hid hrow2; clear hrow2
      have HL := Lib.hid hl; clear hl
      clear hparts
      generalize hs2 : fl16 s (ls.take k) = s2
      have HS2 := Lib.hid hs2; clear hs2
      go_wp2
      go_loop [0, 19] (fun s' i => ∃ j : Nat, j ≤ l.length ∧ i = .int .i64 j ∧ s' = .int .u16 (uv ((l.take j).foldl Dig.ps16 s2))) (fun _ i => l.length - (intOf i).toNat)
      case atStart => exact ⟨0, by omega, rfl, rfl⟩
      case round =>
        obtain ⟨j, hj, rfl, rfl⟩ := hrel
        by_cases hjl : j < l.length
        · obtain ⟨x, hx⟩ : ∃ x, l[j]? = some x := ⟨l[j], List.getElem?_eq_getElem hjl⟩
          obtain ⟨b2, o2, rfl, hcell2⟩ := HROW2.out.at (i := j) (v := .int .u8 (uv x)) (by rw [by8_get, hx]; rfl)
          have HFO := Lib.hid (fo16_take s2 l j x hx)
          have HX := Lib.hid hx; clear hx
          generalize hs3 : (l.take j).foldl Dig.ps16 s2 = s3 at *
          have HS3 := Lib.hid hs3; clear hs3
          go_wp2_with (go_at_call 43; refine (step16_any _ _ _ _ ht).mono ?_; rintro e w' ⟨rfl, rfl⟩)
          go_round
          case rel => exact ⟨j + 1, by omega, by go_num, by rw [HFO.out]⟩
          case measure => simp [intOf]; omega
        · obtain rfl : j = l.length := by omega
          go_wp2
          go_round
          case rel => exact ⟨k + 1, by omega, by go_num, by rw [HF.out, HS2.out, List.take_length]⟩
          case measure => simp [intOf]; omega
    · obtain rfl : k = ls.length := by omega
      go_wp2
      go_ret
      exact ⟨rfl, rfl⟩
end Go.Proofs.Ytpobkgkjfebhgaa
