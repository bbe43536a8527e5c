/- Numbers read from bytes, from the top; quotients and remainders by 256. -/
import Derived.Test.YtabfmhlhdebcpaaGreatDoorWireMath2
import Derived.Test.YtabfmhlhdebcpaaGreatDoorBase
namespace Go.Proofs.YtabfmhlhdebcpaaGreatDoor
open Go.RowKit
set_option linter.unusedVariables false
set_option linter.unusedSimpArgs false
namespace Wire
theorem get_cons (x : BitVec 8) (r : List (BitVec 8)) : get (x :: r) = get r <<< 8 ||| x.setWidth 64 := by
  apply BitVec.eq_of_getLsbD_eq
  intro i hi
  rw [get_bit _ _ hi, BitVec.getLsbD_or, BitVec.getLsbD_shiftLeft, BitVec.getLsbD_setWidth]
  by_cases h : i < 8
  · have e1 : i / 8 = 0 := by omega
    have e2 : i % 8 = i := by omega
    simp [h, hi, e1, e2]
    intro h2; omega
  · have e1 : i / 8 = (i - 8) / 8 + 1 := by omega
    have e2 : i % 8 = (i - 8) % 8 := by omega
    have e3 : x.getLsbD i = false := BitVec.getLsbD_of_ge _ _ (by omega)
    rw [get_bit _ _ (by omega : i - 8 < 64), e1, e2]
    have e4 : decide (i < 8 * (x :: r).length) = decide (i - 8 < 8 * r.length) := by simp; omega
    rw [e4]
    simp [h, hi, e3, List.getD_eq_getElem?_getD]
theorem get_drop (m : List (BitVec 8)) (q : Nat) (x : BitVec 8) (h : m[q]? = some x) : get (m.drop q) = get (m.drop (q + 1)) <<< 8 ||| x.setWidth 64 := by
  obtain ⟨hq, rfl⟩ := List.getElem?_eq_some_iff.1 h
  rw [List.drop_eq_getElem_cons hq, get_cons]
theorem mul_add (v : BitVec 64) (x : BitVec 8) : v * 256#64 + x.setWidth 64 = v <<< 8 ||| x.setWidth 64 := by
  have h1 : v * 256#64 = v <<< 8 := by
    rw [BitVec.shiftLeft_eq_mul_twoPow]; rfl
  rw [h1]
  apply BitVec.add_eq_or_of_and_eq_zero
  apply BitVec.eq_of_getLsbD_eq
  intro i hi
  rw [BitVec.getLsbD_and, BitVec.getLsbD_shiftLeft, BitVec.getLsbD_setWidth]
  by_cases h : i < 8
  · simp [h]
  · rw [BitVec.getLsbD_of_ge x i (by omega)]; simp
end Wire
theorem uv_tmod (x : BitVec 64) : (uv x).tmod 256 = uv (x % 256#64) := by
  rw [Int.tmod_eq_emod_of_nonneg (uv_nonneg _)]; simp [uv]
theorem uv_tdiv (x : BitVec 64) : (uv x).tdiv 256 = uv (x / 256#64) := by
  rw [Int.tdiv_eq_ediv_of_nonneg (uv_nonneg _)]; simp [uv]
theorem uv_ediv (x : BitVec 64) : uv x / 256 = uv (x / 256#64) := by simp [uv]
theorem run_rem256 (x : BitVec 64) (w : World) : (binOp .rem 86 (.int .u64 (uv x)) (.int .u64 256)).run Tryz.prog w = .ok (.int .u64 (uv (x % 256#64))) w := by
  have := uv_nonneg x
  unfold uv at *
  go_simp
  rw [Int.tmod_eq_emod_of_nonneg (Int.natCast_nonneg _)]
theorem run_quo256 (x : BitVec 64) (w : World) : (binOp .quo 86 (.int .u64 (uv x)) (.int .u64 256)).run Tryz.prog w = .ok (.int .u64 (uv (x / 256#64))) w := by
  have e : ((x.toNat : Int) / 256) = uv (x / 256#64) := by simp [uv]
  have h : uv x = (x.toNat : Int) := rfl
  rw [h]
  go_simp
  try rw [e, ofInt_uv]
namespace Wire
theorem rem_byte (v : BitVec 64) (k : Nat) : ((v >>> (8 * k)) % 256#64).setWidth 8 = (v >>> (8 * k)).setWidth 8 := by
  apply BitVec.eq_of_toNat_eq
  simp
theorem quo_step (v : BitVec 64) (k : Nat) : (v >>> (8 * k)) / 256#64 = v >>> (8 * (k + 1)) := by
  apply BitVec.eq_of_toNat_eq
  rw [BitVec.toNat_udiv, BitVec.toNat_ushiftRight, BitVec.toNat_ushiftRight, Nat.shiftRight_eq_div_pow, Nat.shiftRight_eq_div_pow, Nat.mul_add, Nat.pow_add, ← Nat.div_div_eq_div_mul]
  rfl
theorem le_snoc (v : BitVec 64) (k : Nat) : le v (k + 1) = le v k ++ [(v >>> (8 * k)).setWidth 8] := by
  unfold le; rw [List.range_succ, List.map_append]; rfl
end Wire
end Go.Proofs.YtabfmhlhdebcpaaGreatDoor
