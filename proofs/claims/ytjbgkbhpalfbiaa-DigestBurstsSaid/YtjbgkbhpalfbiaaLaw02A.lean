/- The known examples of layer 2, and the walks of its laws. -/
import Derived.Test.YtjbgkbhpalfbiaaDigestD
import Derived.Test.YtjbgkbhpalfbiaaRef01
import Derived.Test.YtjbgkbhpalfbiaaRef02
import Derived.Lib.SlBytesConst
namespace Go.Proofs.Ytjbgkbhpalfbiaa
open Go.RowKit
set_option linter.unusedVariables false
set_option linter.unusedSimpArgs false

def nine : List (BitVec 8) := [49#8, 50#8, 51#8, 52#8, 53#8, 54#8, 55#8, 56#8, 57#8]
theorem k1 : uv (Dig.crc32 []) = 0 := by decide +kernel
theorem k2 : uv (Dig.crc32 nine) = 3808858755 := by decide +kernel
theorem k3 : uv (Dig.crc16 []) = 0 := by decide +kernel
theorem k4 : uv (Dig.crc16 nine) = 53467 := by decide +kernel
theorem k5 : uv (Dig.crc32 [0#8]) = 1383945041 := by decide +kernel
theorem k6 : uv (Dig.up16 0#16 [1#8]) = 35767 := by decide +kernel

theorem BytesV.lit (w : World) (cs : Array Value) (t : TypeId) (fr : Nat × Nat) (l : List (BitVec 8)) (n : Nat) (hn : n = l.length) (h : cs.toList = by8 l) (hm : l.length ≤ 9223372036854775807) : BytesV (w.alloc (.cells cs t fr)) (.slice (some ⟨w.heap.size, 0, none⟩) n n) l := by
  subst hn
  refine ⟨_, _, rfl, by simp, Nat.le_refl _, hm, .inr ⟨_, 0, rfl, fun i hi => ?_⟩⟩
  rw [cell_of_row _ _ _ _ _ _ (heap_alloc_new w (.cells cs t fr)), ← h]; simp
theorem BytesV.litb {w w1 : World} {cs : Array Value} {t : TypeId} {fr : Nat × Nat} (hb : Below (w.alloc (.cells cs t fr)).heap.size (w.alloc (.cells cs t fr)) w1) (l : List (BitVec 8)) (n : Nat) (hn : n = l.length) (h : cs.toList = by8 l) (hm : l.length ≤ 9223372036854775807) : BytesV w1 (.slice (some ⟨w.heap.size, 0, none⟩) n n) l :=
  (BytesV.lit w cs t fr l n hn h hm).below hb
theorem Update16_at (n : Int) (s : BitVec 16) (v : Value) (l : List (BitVec 8)) (w : World) (hn : n = uv s) (hp : BytesV w v l) :
    Calls Try.prog 21 #[.int .u16 n, v] w fun e w' => e = .returned (.int .u16 (uv (Dig.up16 s l))) ∧ Below w.heap.size w w' := by
  subst hn; exact Update16_any s v l w hp

set_option maxHeartbeats 400000 in
theorem known_any (w : World) :
    Calls Try.prog 10 #[] w fun e w' => e = .returned (.bool true) ∧ Below w.heap.size w w' := by
  have h1 := k1
  have h2 := k2
  have h3 := k3
  have h4 := k4
  have h5 := k5
  have h6 := k6
  have kc := fun (w : World) (C : Array Value) (n c : Nat) => Lib.run_convert_bytes_const (P := Try.prog) w 22 5 C n c Try.underlying22 Try.underlying5
  go_enter Try.func10, Try.ntmps10
  go_wp2_with fail
  refine (CRC32C_any _ [] _ (BytesV.nil _)).mono ?_
  rintro e w1 ⟨rfl, hb1⟩
  have HB1 := Lib.hid hb1; clear hb1
  go_wp2_with fail
  refine (CRC32C_any _ nine _ (BytesV.litb HB1.out nine 9 rfl rfl (by decide))).mono ?_
  rintro e w2 ⟨rfl, hb2⟩
  have HB2 := Lib.hid hb2; clear hb2
  go_wp2_with fail
  refine (CRC16_any _ [] _ (BytesV.nil _)).mono ?_
  rintro e w3 ⟨rfl, hb3⟩
  have HB3 := Lib.hid hb3; clear hb3
  go_wp2_with fail
  refine (CRC16_any _ nine _ (((BytesV.litb HB1.out nine 9 rfl rfl (by decide)).below HB2.out).below HB3.out)).mono ?_
  rintro e w4 ⟨rfl, hb4⟩
  have HB4 := Lib.hid hb4; clear hb4
  go_wp2_with fail
  refine (CRC32C_any _ [0#8] _ (BytesV.lit w4 _ _ (0, 0) [0#8] 1 rfl rfl (by decide))).mono ?_
  rintro e w5 ⟨rfl, hb5⟩
  have HB5 := Lib.hid hb5; clear hb5
  go_wp2_with fail
  refine (Update16_at _ 0#16 _ [1#8] _ (by decide) (BytesV.lit w5 _ _ (0, 0) [1#8] 1 rfl rfl (by decide))).mono ?_
  rintro e w6 ⟨rfl, hb6⟩
  have HB6 := Lib.hid hb6; clear hb6
  go_wp2_with fail
  go_ret
  exact ⟨rfl, gr_tr (gr_tr (gr_tr (gr_tr (gr_tr (gr_tr (gr_tr (gr_alloc _ _) HB1.out) HB2.out) HB3.out) HB4.out) (gr_alloc _ _)) HB5.out) (gr_tr (gr_alloc _ _) HB6.out)⟩

/-- Bytes among the arguments are in reach. -/
theorem law32_big (v : Value) (l : List (BitVec 8)) (w : World) (hv : BytesV w v l) (hl : 2000 < l.length) :
    Calls Try.prog 3 #[v] w fun e w' => e = .returned (.bool true) ∧ Below w.heap.size w w' := by
  obtain ⟨a, c, rfl, _, _, _, _⟩ := hv
  go_enter Try.func3, Try.ntmps3
  go_wp2_with (go_at_call 10; refine (known_any _).mono ?_; rintro e w1 ⟨rfl, hb⟩)
  go_ret
  exact ⟨rfl, hb⟩
theorem law32_small (v : Value) (l : List (BitVec 8)) (w : World) (hv : BytesV w v l) (hl : l.length ≤ 2000) :
    Calls Try.prog 3 #[v] w fun e w' => e = .returned (.bool true) ∧ Below w.heap.size w w' := by
  have HV := Lib.hid hv
  obtain ⟨a, c, rfl, _, _, _, _⟩ := hv
  go_enter Try.func3, Try.ntmps3
  go_wp2_with fail
  refine (Own_any _ l _ HV.out (by omega)).mono ?_
  rintro e w1 ⟨u, rfl, hown, hb1⟩
  have HO := Lib.hid (BytesV.of_own hown); clear hown
  have HB1 := Lib.hid hb1; clear hb1
  obtain ⟨a', c', rfl, _, _, _, _⟩ := id HO.out
  go_wp2_with fail
  refine (CRC32C_any _ l _ HO.out).mono ?_
  rintro e w2 ⟨rfl, hb2⟩
  have HB2 := Lib.hid hb2; clear hb2
  go_wp2_with fail
  refine (rCRC32C_any _ l _ ((HV.out.below HB1.out).below HB2.out)).mono ?_
  rintro e w2 ⟨rfl, rfl⟩
  go_wp2_with fail
  refine (Same_any _ _ l l _ (HO.out.below HB2.out) ((HV.out.below HB1.out).below HB2.out)).mono ?_
  rintro e w2 ⟨rfl, rfl⟩
  go_wp2_with (go_at_call 10; refine (known_any _).mono ?_; rintro e w3 ⟨rfl, hb3⟩)
  go_ret
  exact ⟨rfl, gr_tr (gr_tr HB1.out HB2.out) hb3⟩
theorem law32 (v : Value) (l : List (BitVec 8)) (w : World) (hv : BytesV w v l) :
    Calls Try.prog 3 #[v] w fun e w' => e = .returned (.bool true) ∧ Below w.heap.size w w' := by
  by_cases h : l.length ≤ 2000
  · exact law32_small v l w hv h
  · exact law32_big v l w hv (by omega)
end Go.Proofs.Ytjbgkbhpalfbiaa
