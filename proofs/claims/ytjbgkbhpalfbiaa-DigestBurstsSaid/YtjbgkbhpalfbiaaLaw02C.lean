/- The walk of DigestResidue: a sequence followed by its checksum. -/
import Derived.Test.YtjbgkbhpalfbiaaLaw02B
namespace Go.Proofs.Ytjbgkbhpalfbiaa
open Go.RowKit
set_option linter.unusedVariables false
set_option linter.unusedSimpArgs false
namespace Dig
theorem r8_step (s v : BitVec 32) : r8 (s ^^^ v) = st32 s (v.setWidth 8) ^^^ (v >>> 8) := by
  have e : s ^^^ v = (s ^^^ (v.setWidth 8).setWidth 32) ^^^ (v >>> 8 <<< 8) := by
    rw [BitVec.xor_assoc]
    congr 1
    apply BitVec.eq_of_getLsbD_eq
    intro i hi
    simp
    by_cases h : i < 8
    · simp [h, hi]
    · simp [h, hi]
      rw [show 8 + (i - 8) = i by omega]; simp [hi]
  rw [e, r8_xor]
  unfold st32
  congr 1
  rw [r8, it32_high _ 8 _ 8 (by omega)]
  · apply BitVec.eq_of_getLsbD_eq
    intro i hi
    simp
    intro h
    exact (BitVec.lt_of_getLsbD h)
  · intro i hi; simp [hi]
theorem up32_le (s v : BitVec 32) : up32 s [v.setWidth 8, (v >>> 8).setWidth 8, (v >>> 16).setWidth 8, (v >>> 24).setWidth 8] = r8 (r8 (r8 (r8 (s ^^^ v)))) := by
  simp only [up32, List.foldl]
  rw [r8_step s v, r8_step _ (v >>> 8), ← BitVec.shiftRight_add, r8_step _ (v >>> (8 + 8)), ← BitVec.shiftRight_add, r8_step _ (v >>> (8 + 8 + 8)), ← BitVec.shiftRight_add]
  rw [show v >>> (8 + 8 + 8 + 8) = 0#32 from BitVec.ushiftRight_eq_zero (by omega), BitVec.xor_zero]
theorem residue32 (l : List (BitVec 8)) : crc32 (l ++ [(crc32 l).setWidth 8, (crc32 l >>> 8).setWidth 8, (crc32 l >>> 16).setWidth 8, (crc32 l >>> 24).setWidth 8]) = 1214729159#32 := by
  rw [crc32, up32_app, up32_le]
  have e : up32 (BitVec.allOnes 32) l ^^^ crc32 l = BitVec.allOnes 32 := by
    unfold crc32
    rw [← BitVec.xor_allOnes, ← BitVec.xor_assoc, BitVec.xor_self, BitVec.zero_xor]
  rw [e]
  decide +kernel
theorem l8_step (s v : BitVec 16) : l8 (s ^^^ v) = st16 s ((v >>> 8).setWidth 8) ^^^ (v <<< 8) := by
  have e : s ^^^ v = (s ^^^ ((v >>> 8).setWidth 8).setWidth 16 <<< 8) ^^^ (v <<< 8 >>> 8) := by
    rw [BitVec.xor_assoc]
    congr 1
    apply BitVec.eq_of_getLsbD_eq
    intro i hi
    simp
    by_cases h : i < 8
    · simp [h, hi]; omega
    · have h1 : i - 8 < 8 := by omega
      have h2 : i - 8 < 16 := by omega
      have h3 : ¬ (8 + i < 16) := by omega
      have h4 : 8 + (i - 8) = i := by omega
      simp [h, hi, h1, h2, h3, h4]
  rw [e, l8_xor]
  unfold st16
  congr 1
  rw [l8, it16_high _ 8 (by omega) _ 8 (by omega)]
  · apply BitVec.eq_of_getLsbD_eq
    intro i hi
    simp
    by_cases h : i < 8
    · simp [h]
    · have h3 : 8 + (i - 8) = i := by omega
      simp [h, hi, h3]
  · intro i hi; simp; omega
theorem residue16 (l : List (BitVec 8)) : crc16 (l ++ [(crc16 l >>> 8).setWidth 8, (crc16 l).setWidth 8]) = 0#16 := by
  rw [crc16, up16_app]
  have h1 := l8_step (up16 0#16 l) (crc16 l)
  have h2 := l8_step (st16 (up16 0#16 l) ((crc16 l >>> 8).setWidth 8)) (crc16 l <<< 8)
  rw [← h1] at h2
  have e : up16 0#16 l ^^^ crc16 l = 0#16 := by unfold crc16; simp
  rw [e] at h2
  have e3 : (crc16 l <<< 8 >>> 8).setWidth 8 = (crc16 l).setWidth 8 := by
    apply BitVec.eq_of_getLsbD_eq
    intro i hi
    simp only [BitVec.getLsbD_setWidth, BitVec.getLsbD_ushiftRight, BitVec.getLsbD_shiftLeft, hi]
    have h1 : 8 + i < 16 := by omega
    have h2 : ¬ (8 + i < 8) := by omega
    have h3 : 8 + i - 8 = i := by omega
    simp [h1, h3]
  have e4 : crc16 l <<< 8 <<< 8 = 0#16 := by
    rw [← BitVec.shiftLeft_add]; exact BitVec.shiftLeft_eq_zero (by omega)
  rw [e3, e4, BitVec.xor_zero] at h2
  simp only [up16, List.foldl]
  unfold up16 at h2
  rw [← h2]
  decide +kernel
end Dig

theorem lawR_big (v : Value) (l : List (BitVec 8)) (w : World) (hv : BytesV w v l) (hl : 1000 < l.length) :
    Calls Try.prog 6 #[v] w fun e w' => e = .returned (.bool true) ∧ Below w.heap.size w w' := by
  obtain ⟨a, c, rfl, _, _, _, _⟩ := hv
  go_enter Try.func6, Try.ntmps6
  go_wp2_with (go_at_call 10; refine (known_any _).mono ?_; rintro e w1 ⟨rfl, hb⟩)
  go_ret
  exact ⟨rfl, hb⟩
set_option maxHeartbeats 400000 in
theorem lawR_small (v : Value) (l : List (BitVec 8)) (w : World) (hv : BytesV w v l) (hl : l.length ≤ 1000) :
    Calls Try.prog 6 #[v] w fun e w' => e = .returned (.bool true) ∧ Below w.heap.size w w' := by
  have HV := Lib.hid hv
  have HR32 := Lib.hid (Dig.residue32 l)
  have HR16 := Lib.hid (Dig.residue16 l)
  obtain ⟨a, c, rfl, _, _, _, _⟩ := hv
  go_enter Try.func6, Try.ntmps6
  go_wp2_with fail
  refine (CRC32C_any _ l _ HV.out).mono ?_
  rintro e w1 ⟨rfl, hb1⟩
  have HB1 := Lib.hid hb1; clear hb1
  go_wp2_with fail
  refine (CRC16_any _ l _ (HV.out.below HB1.out)).mono ?_
  rintro e w2 ⟨rfl, hb2⟩
  have HB2 := Lib.hid hb2; clear hb2
  have HV2 := Lib.hid ((HV.out.below HB1.out).below HB2.out)
  generalize hc32 : Dig.crc32 l = c32 at *
  generalize hc16 : Dig.crc16 l = c16 at *
  clear hc32 hc16
  go_wp2_with fail
  refine (Own_any _ l _ HV2.out (by omega)).mono ?_
  rintro e w3 ⟨u, rfl, hown, hb3⟩
  have HO := Lib.hid hown; clear hown
  have HB3 := Lib.hid hb3; clear hb3
  go_wp2_with (at_builtin; refine app_law bytesOk rfl (.tmp 16) (.tmp 28) rfl w2.heap.size u l.length (by8 l) rfl (HO.out.alloc _) (some ⟨w3.heap.size, 0, none⟩) 4 4 (by8 [c32.setWidth 8, (c32 >>> 8).setWidth 8, (c32 >>> 16).setWidth 8, (c32 >>> 24).setWidth 8]) rfl (by simp) (by omega) (by exact Row.lit _ _ _ _) rfl (by8_one _) (by omega) (by omega) (by have := HB3.out.size; simp; omega) ?_; intro v1 w4 hown1 hgrow1 _; have HO1 := Lib.hid hown1; clear hown1; have HB4 := Lib.hid ((HB3.out.alloc HB3.out.size _).grown hgrow1 (by have := HB3.out.size; simp; omega) (fun k hk => (HO.out.lt k hk).1)); clear hgrow1)
  have HX := Lib.hid (BytesV.of_own (l := l ++ [c32.setWidth 8, (c32 >>> 8).setWidth 8, (c32 >>> 16).setWidth 8, (c32 >>> 24).setWidth 8]) (by rw [by8_append, List.length_append]; exact HO1.out))
  refine (Own_any _ l _ (HV2.out.below HB4.out) (by omega)).mono ?_
  rintro e w5 ⟨u2, rfl, hown, hb5⟩
  have HO5 := Lib.hid hown; clear hown
  have HB5 := Lib.hid hb5; clear hb5
  go_wp2_with (at_builtin; refine app_law bytesOk rfl (.tmp 31) (.tmp 37) rfl w4.heap.size u2 l.length (by8 l) rfl (HO5.out.alloc _) (some ⟨w5.heap.size, 0, none⟩) 2 2 (by8 [(c16 >>> 8).setWidth 8, c16.setWidth 8]) rfl (by simp) (by omega) (by exact Row.lit _ _ _ _) rfl (by8_one _) (by omega) (by omega) (by have := HB5.out.size; simp; omega) ?_; intro v2 w6 hown1 hgrow1 _; have HO6 := Lib.hid hown1; clear hown1; have HB6 := Lib.hid ((HB5.out.alloc HB5.out.size _).grown hgrow1 (by have := HB5.out.size; simp; omega) (fun k hk => (HO5.out.lt k hk).1)); clear hgrow1)
  have HY := Lib.hid (BytesV.of_own (l := l ++ [(c16 >>> 8).setWidth 8, c16.setWidth 8]) (by rw [by8_append, List.length_append]; exact HO6.out))
  have C32 := CRC32C_any _ _ _ (HX.out.below HB6.out)
  rw [HR32.out] at C32
  refine C32.mono ?_
  clear C32
  rintro e w7 ⟨rfl, hb7⟩
  have HB7 := Lib.hid hb7; clear hb7
  go_wp2_with fail
  have C16 := CRC16_any _ _ _ (HY.out.below HB7.out)
  rw [HR16.out] at C16
  refine C16.mono ?_
  clear C16
  rintro e w8 ⟨rfl, hb8⟩
  have HB8 := Lib.hid hb8; clear hb8
  go_wp2_with (go_at_call 10; refine (known_any _).mono ?_; rintro e w9 ⟨rfl, hb9⟩)
  go_ret
  exact ⟨rfl, gr_tr (gr_tr (gr_tr (gr_tr (gr_tr (gr_tr HB1.out HB2.out) HB4.out) HB6.out) HB7.out) HB8.out) hb9⟩
theorem lawR (v : Value) (l : List (BitVec 8)) (w : World) (hv : BytesV w v l) :
    Calls Try.prog 6 #[v] w fun e w' => e = .returned (.bool true) ∧ Below w.heap.size w w' := by
  by_cases h : l.length ≤ 1000
  · exact lawR_small v l w hv h
  · exact lawR_big v l w hv (by omega)
end Go.Proofs.Ytjbgkbhpalfbiaa
