/- The walks of the reference of layer 2: bit by bit. -/
import Derived.Test.YteicmbapipnbjaaRows
import Derived.Test.YteicmbapipnbjaaDigestMath
import Derived.Test.YteicmbapipnbjaaMem
namespace Go.Proofs.Yteicmbapipnbjaa
open Go.RowKit
set_option linter.unusedVariables false
set_option linter.unusedSimpArgs false

@[go_sem] theorem ofInt_tdiv2 {n : Nat} (s : BitVec n) : BitVec.ofInt n ((uv s).tdiv 2) = s >>> 1 := by
  apply BitVec.eq_of_toNat_eq
  have : (uv s).tdiv 2 = ((s.toNat / 2 : Nat) : Int) := by unfold uv; rw [Int.tdiv_eq_ediv_of_nonneg (by omega)]; omega
  rw [this, BitVec.ofInt_natCast, BitVec.toNat_ofNat, BitVec.toNat_ushiftRight, Nat.shiftRight_eq_div_pow, Nat.pow_one]
  exact Nat.mod_eq_of_lt (by have := s.isLt; omega)
theorem uv_odd {n : Nat} (s : BitVec n) (h : s.getLsbD 0 = true) : (uv s).tmod 2 = 1 := by
  have h1 : s.toNat % 2 = 1 := by
    rw [BitVec.getLsbD, Nat.testBit_zero] at h; simpa using h
  unfold uv; rw [Int.tmod_eq_emod_of_nonneg (by omega)]; omega
theorem uv_even {n : Nat} (s : BitVec n) (h : s.getLsbD 0 = false) : (uv s).tmod 2 = 0 := by
  have h1 : s.toNat % 2 = 0 := by
    rw [BitVec.getLsbD, Nat.testBit_zero] at h; simp at h; omega
  unfold uv; rw [Int.tmod_eq_emod_of_nonneg (by omega)]; omega
theorem sh32_odd (s : BitVec 32) (h : s.getLsbD 0 = true) : Dig.sh32 s = s >>> 1 ^^^ 2197175160#32 := by rw [Dig.sh32_ite, h]; rfl
theorem sh32_even (s : BitVec 32) (h : s.getLsbD 0 = false) : Dig.sh32 s = s >>> 1 := by rw [Dig.sh32_ite, h]; simp
theorem sh16_odd (s : BitVec 16) (h : s.getLsbD 15 = true) : Dig.sh16 s = s * 2#16 ^^^ 35767#16 := by
  rw [Dig.sh16_ite, h]; congr 1; apply BitVec.eq_of_toNat_eq; simp [Nat.shiftLeft_eq]
theorem sh16_even (s : BitVec 16) (h : s.getLsbD 15 = false) : Dig.sh16 s = s * 2#16 := by
  rw [Dig.sh16_ite, h]; simp; apply BitVec.eq_of_toNat_eq; simp [Nat.shiftLeft_eq]
theorem uv_high (s : BitVec 16) (h : s.getLsbD 15 = true) : 32768 ≤ uv s := by
  have := Nat.ge_two_pow_of_testBit h
  unfold uv; omega
theorem uv_low (s : BitVec 16) (h : s.getLsbD 15 = false) : uv s < 32768 := by
  have : s.msb = false := by rw [BitVec.msb_eq_getLsbD_last]; exact h
  have := BitVec.msb_eq_false_iff_two_mul_lt.1 this
  unfold uv; omega
theorem up32_take (s : BitVec 32) (l : List (BitVec 8)) (k : Nat) (x : BitVec 8) (h : l[k]? = some x) : Dig.up32 s (l.take (k + 1)) = Dig.st32 (Dig.up32 s (l.take k)) x := by
  obtain ⟨hk, rfl⟩ := List.getElem?_eq_some_iff.1 h
  rw [List.take_succ_eq_append_getElem hk, Dig.up32_app]; rfl
theorem up16_take (s : BitVec 16) (l : List (BitVec 8)) (k : Nat) (x : BitVec 8) (h : l[k]? = some x) : Dig.up16 s (l.take (k + 1)) = Dig.st16 (Dig.up16 s (l.take k)) x := by
  obtain ⟨hk, rfl⟩ := List.getElem?_eq_some_iff.1 h
  rw [List.take_succ_eq_append_getElem hk, Dig.up16_app]; rfl

set_option maxHeartbeats 400000 in
theorem rUpdate32_any (s : BitVec 32) (v : Value) (l : List (BitVec 8)) (w : World) (hv : BytesV w v l) :
    Calls Try.prog 49 #[.int .u32 (uv s), v] w fun e w' => e = .returned (.int .u32 (uv (Dig.up32 s l))) ∧ w = w' := by
  obtain ⟨a, c, rfl, h0, h1, h2, hrow⟩ := hv
  have hm : l.length ≤ 9223372036854775807 := by omega
  go_enter Try.func49, Try.ntmps49
  go_wp2
  go_loop [0, 5] (fun s' i => ∃ k : Nat, k ≤ l.length ∧ i = .int .i64 k ∧ s' = .int .u32 (uv (Dig.up32 s (l.take k)))) (fun _ i => l.length - (intOf i).toNat)
  case atStart => exact ⟨0, by omega, rfl, rfl⟩
  case round =>
    obtain ⟨k, hk, rfl, rfl⟩ := hrel
    by_cases hlt : k < l.length
    · obtain ⟨x, hx⟩ : ∃ x, l[k]? = some x := ⟨l[k], List.getElem?_eq_getElem hlt⟩
      obtain ⟨b, o, rfl, hcell⟩ := hrow.at (i := k) (v := .int .u8 (uv x)) (by rw [by8_get, hx]; rfl)
      have HF := Lib.hid (up32_take s l k x hx)
      have HX := Lib.hid hx; clear hx
      have HROW := Lib.hid hrow; clear hrow
      generalize hs2 : Dig.up32 s (l.take k) = s2 at *
      have HS2 := Lib.hid hs2; clear hs2
      go_wp2
      go_loop [0, 6] (fun s' i => ∃ j : Nat, j ≤ 8 ∧ i = .int .i64 j ∧ s' = .int .u32 (uv (Dig.it Dig.sh32 j (s2 ^^^ x.setWidth 32)))) (fun _ i => 8 - (intOf i).toNat)
      case atStart => exact ⟨0, by omega, rfl, rfl⟩
      case round =>
        obtain ⟨j, hj, rfl, rfl⟩ := hrel
        by_cases hjl : j < 8
        · generalize hs3 : Dig.it Dig.sh32 j (s2 ^^^ x.setWidth 32) = s3 at *
          have HS3 := Lib.hid hs3; clear hs3
          cases hbit : s3.getLsbD 0
          · have ho := uv_even s3 hbit
            have HB := Lib.hid hbit; clear hbit
            go_wp2
            go_round
            case rel => exact ⟨j + 1, by omega, by go_num, by rw [Dig.it, HS3.out, sh32_even _ HB.out]⟩
            case measure => simp [intOf]; omega
          · have ho := uv_odd s3 hbit
            have HB := Lib.hid hbit; clear hbit
            go_wp2
            go_round
            case rel => exact ⟨j + 1, by omega, by go_num, by rw [Dig.it, HS3.out, sh32_odd _ HB.out]⟩
            case measure => simp [intOf]; omega
        · obtain rfl : j = 8 := by omega
          go_wp2
          go_round
          case rel => exact ⟨k + 1, by omega, by go_num, by rw [HF.out]; rfl⟩
          case measure => simp [intOf]; omega
    · obtain rfl : k = l.length := by omega
      go_wp2
      go_ret
      exact ⟨rfl, rfl⟩
theorem rCRC32C_any (v : Value) (l : List (BitVec 8)) (w : World) (hv : BytesV w v l) :
    Calls Try.prog 35 #[v] w fun e w' => e = .returned (.int .u32 (uv (Dig.crc32 l))) ∧ w = w' := by
  have hc : ∀ n : Int, n = uv (BitVec.allOnes 32) → ∀ w, BytesV w v l → Calls Try.prog 49 #[.int .u32 n, v] w fun e w' => e = .returned (.int .u32 (uv (Dig.up32 (BitVec.allOnes 32) l))) ∧ w = w' := by
    rintro n rfl w hv; exact rUpdate32_any _ _ _ _ hv
  have HC := Lib.hid hc; clear hc
  have HV := Lib.hid hv
  obtain ⟨a, c, rfl, _, _, _, _⟩ := hv
  go_enter Try.func35, Try.ntmps35
  go_wp2_with (go_at_call 49; refine (HC.out _ (by decide) _ HV.out).mono ?_; rintro e w' ⟨rfl, rfl⟩)
  go_ret
  refine ⟨congrArg (fun x => Ending.returned (.int .u32 (uv x))) ?_, rfl⟩
  rw [Dig.crc32, BitVec.xor_comm]
  exact BitVec.xor_allOnes
end Go.Proofs.Yteicmbapipnbjaa
