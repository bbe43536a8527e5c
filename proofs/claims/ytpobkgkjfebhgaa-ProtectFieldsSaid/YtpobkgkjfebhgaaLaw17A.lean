/- The walks of capsulelaw17: num, code, tuple; the examples' calls. -/
import Derived.Test.YtpobkgkjfebhgaaProtJ
import Derived.Test.YtpobkgkjfebhgaaApp
import Derived.Test.YtpobkgkjfebhgaaPlan2
namespace Go.Proofs.Ytpobkgkjfebhgaa
open Go.RowKit
set_option linter.unusedVariables false
set_option linter.unusedSimpArgs false
theorem num_any (n : Int) (w : World) :
    Calls Try.prog 11 #[.int .i64 n] w fun e w' => e = .returned (.int .i64 n) ∧ w = w' := by
  go_enter Try.func11, Try.ntmps11
  go_wp2
  go_ret
  exact ⟨rfl, rfl⟩
theorem code_zero (w : World) :
    Calls Try.prog 17 #[.agg #[.int .u8 0, .int .u8 0, .bool false, .bool false], .int .i64 0] w fun e w' => e = .returned (.bool true) ∧ Below w.heap.size w w' := by
  have hq : ∀ w, (binOp .eql 56 (.agg #[.int .u8 0, .int .u8 0, .bool false, .bool false]) (.agg #[.int .u8 0, .int .u8 0, .bool false, .bool false])).run Try.prog w = .ok (.bool true) w := fun w => by kernel_rfl
  go_enter Try.func17, Try.ntmps17
  go_wp2
  go_ret
  exact ⟨rfl, gr_alloc _ _⟩
theorem code_some (c : Int) (hc : c = 130 ∨ c = 131 ∨ c = 132) (w : World) :
    Calls Try.prog 17 #[.agg #[.int .u8 2, .int .u8 c, .bool false, .bool true], .int .i64 c] w fun e w' => e = .returned (.bool true) ∧ Below w.heap.size w w' := by
  rcases hc with rfl | rfl | rfl
  all_goals
    have h0 : ∀ w, (binOp .eql 56 (.agg #[.int .u8 2, .int .u8 130, .bool false, .bool true]) (.agg #[.int .u8 2, .int .u8 130, .bool false, .bool true])).run Try.prog w = .ok (.bool true) w := fun w => by kernel_rfl
    have h1 : ∀ w, (binOp .eql 56 (.agg #[.int .u8 2, .int .u8 131, .bool false, .bool true]) (.agg #[.int .u8 2, .int .u8 131, .bool false, .bool true])).run Try.prog w = .ok (.bool true) w := fun w => by kernel_rfl
    have h2 : ∀ w, (binOp .eql 56 (.agg #[.int .u8 2, .int .u8 132, .bool false, .bool true]) (.agg #[.int .u8 2, .int .u8 132, .bool false, .bool true])).run Try.prog w = .ok (.bool true) w := fun w => by kernel_rfl
    go_enter Try.func17, Try.ntmps17
    go_wp2
    go_ret
    exact ⟨rfl, gr_alloc _ _⟩
theorem code_any (c : Int) (hc : c = 0 ∨ c = 130 ∨ c = 131 ∨ c = 132) (w : World) :
    Calls Try.prog 17 #[.agg (Prot.st c), .int .i64 c] w fun e w' => e = .returned (.bool true) ∧ Below w.heap.size w w' := by
  by_cases h : c = 0
  · subst h; exact code_zero w
  · have := code_some c (by omega) w
    unfold Prot.st; rw [if_neg h]; exact this
set_option maxRecDepth 4000 in
theorem tuple_any (w : World) :
    Calls Try.prog 13 #[] w fun e w' => e = .returned (.agg #[.int .u16 1, .int .u16 2, .int .u32 3]) ∧ Below w.heap.size w w' := by
  go_enter Try.func13, Try.ntmps13
  go_wp2_with (refine wpList_store_new rfl 40 (.tmp 0) _ rfl #[.int .u16 1, .int .u16 2, .int .u32 3] 40 #[.int .u16 0, .int .u16 0, .int .u32 0] rfl rfl (by kernel_rfl) rfl (by simp [Value.oneCell']) ?_; intro w3 hr3 hb3; have R3 := Lib.hid hr3; have B3 := Lib.hid hb3; clear hr3 hb3)
  exact bodyPost_ret (v := .agg #[.int .u16 1, .int .u16 2, .int .u32 3]) (results_cell_row rfl _ _ w.heap.size 40 _ (0, 0) _ rfl R3.out Try.underlying40 rfl (by kernel_rfl)) rfl ⟨rfl, B3.out⟩

/-! the examples -/
def ex9 : List (BitVec 8) := [1#8, 2#8, 3#8, 4#8, 5#8, 6#8, 7#8, 8#8, 9#8]
def exm : List (BitVec 8) := [0#8, 0#8, 0#8, 0#8, 2#8, 0#8, 0#8, 0#8, 3#8]
theorem ex_tagA (w : World) : Calls Try.prog 8 #[.agg #[.int .i64 1, .bool false], .int .u32 4294967295, .int .i64 2] w fun e w' => e = .returned (.tuple #[.int .u32 1, .int .i64 0]) ∧ Below w.heap.size w w' := by
  have h := Tag_any 1 false 4294967295#32 2 w (by omega)
  rw [show uv 4294967295#32 = 4294967295 by decide +kernel, show uv (Prot.tag 1 false 4294967295#32 2) = 1 by decide +kernel, show Prot.te 1 false 2 = 0 by decide +kernel] at h
  exact h
theorem ex_tagB (w : World) : Calls Try.prog 8 #[.agg #[.int .i64 3, .bool true], .int .u32 7, .int .i64 2] w fun e w' => e = .returned (.tuple #[.int .u32 7, .int .i64 0]) ∧ Below w.heap.size w w' := by
  have h := Tag_any 3 true 7#32 2 w (by omega)
  rw [show uv (Prot.tag 3 true 7#32 2) = 7 by decide +kernel, show uv 7#32 = 7 by decide +kernel, show Prot.te 3 true 2 = 0 by decide +kernel] at h
  exact h
theorem ex_gen (v : Value) (w : World) (hv : BytesV w v (List.replicate 9 0#8)) : Calls Try.prog 9 #[.agg #[.int .i64 1, .bool false], .slice none 0 0, v, .int .u16 2, .int .u32 3] w fun e w' => ∃ u, e = .returned (.tuple #[u, .int .i64 0]) ∧ BytesV w' u exm ∧ Below w.heap.size w w' := by
  have h := Generate_any 1 false (.slice none 0 0) v [] (List.replicate 9 0#8) 2#16 3#32 w (BytesV.nil w) hv (by decide)
  rw [show uv 2#16 = 2 by decide +kernel, show uv 3#32 = 3 by decide +kernel, show Prot.wr 1 false false (List.replicate 9 0#8).length = 0 by decide +kernel, show Prot.gen 1 false [] (List.replicate 9 0#8) 2#16 3#32 = exm by decide +kernel] at h
  exact h
theorem ex_stripA (v : Value) (w : World) (hv : BytesV w v ex9) : Calls Try.prog 10 #[.agg #[.int .i64 1, .bool false], v] w fun e w' => ∃ u, e = .returned (.tuple #[u, .int .i64 0]) ∧ BytesV w' u [1#8] ∧ Below w.heap.size w w' := by
  have h := Strip_any 1 false v ex9 w hv (by decide)
  rw [show Prot.wr 1 false true ex9.length = 0 by decide +kernel, show Prot.strip 1 false ex9 = [1#8] by decide +kernel] at h
  exact h
theorem ex_stripB (v : Value) (w : World) (hv : BytesV w v ex9) : Calls Try.prog 10 #[.agg #[.int .i64 3, .bool true], v] w fun e w' => ∃ u, e = .returned (.tuple #[u, .int .i64 0]) ∧ BytesV w' u [9#8] ∧ Below w.heap.size w w' := by
  have h := Strip_any 3 true v ex9 w hv (by decide)
  rw [show Prot.wr 3 true true ex9.length = 0 by decide +kernel, show Prot.strip 3 true ex9 = [9#8] by decide +kernel] at h
  exact h
theorem ex_enc (w : World) : Calls Try.prog 12 #[.agg #[.int .u16 1, .int .u16 2, .int .u32 3]] w fun e w' => e = .returned (.agg #[.int .u8 0, .int .u8 1, .int .u8 0, .int .u8 2, .int .u8 0, .int .u8 0, .int .u8 0, .int .u8 3]) ∧ Below w.heap.size w w' := by
  have h := Encode_any 1#16 2#16 3#32 w
  rw [show Prot.bytes 1#16 2#16 3#32 = [0#8, 1#8, 0#8, 2#8, 0#8, 0#8, 0#8, 3#8] by decide +kernel] at h
  exact h
theorem ex_valid (w : World) : Calls Try.prog 14 #[.agg #[.int .i64 0, .bool true]] w fun e w' => e = .returned (.bool false) ∧ Below w.heap.size w w' := Valid_at 0 true false w (by decide)
theorem ex_check (n t y : Int) (T : BitVec 16) (Y : BitVec 32) (v : Value) (w : World) (hv : BytesV w v exm) (hT : uv T = t) (hY : uv Y = y) (hn : Prot.chk 1 false [] exm true true true T 65535#16 Y = n) :
    Calls Try.prog 15 #[.agg #[.int .i64 1, .bool false], .slice none 0 0, v, .agg #[.bool true, .bool true, .bool true, .int .u16 t, .int .u16 65535], .int .u32 y] w fun e w' => e = .returned (.tuple #[.agg (Prot.st n), .int .i64 0]) ∧ Below w.heap.size w w' := by
  have h := Check_any 1 false (.slice none 0 0) v [] exm true true true T 65535#16 Y w (BytesV.nil w) hv (by decide)
  rw [hT, hY, hn, show uv 65535#16 = 65535 by decide +kernel, show Prot.wr 1 false false exm.length = 0 by decide +kernel] at h
  exact h
theorem ex_chkA (v : Value) (w : World) (hv : BytesV w v exm) : Calls Try.prog 15 #[.agg #[.int .i64 1, .bool false], .slice none 0 0, v, .agg #[.bool true, .bool true, .bool true, .int .u16 2, .int .u16 65535], .int .u32 3] w fun e w' => e = .returned (.tuple #[.agg #[.int .u8 0, .int .u8 0, .bool false, .bool false], .int .i64 0]) ∧ Below w.heap.size w w' :=
  ex_check 0 2 3 2#16 3#32 v w hv (by decide +kernel) (by decide +kernel) (by decide +kernel)
theorem ex_chkB (v : Value) (w : World) (hv : BytesV w v exm) : Calls Try.prog 15 #[.agg #[.int .i64 1, .bool false], .slice none 0 0, v, .agg #[.bool true, .bool true, .bool true, .int .u16 2, .int .u16 65535], .int .u32 4] w fun e w' => e = .returned (.tuple #[.agg #[.int .u8 2, .int .u8 132, .bool false, .bool true], .int .i64 0]) ∧ Below w.heap.size w w' :=
  ex_check 132 2 4 2#16 4#32 v w hv (by decide +kernel) (by decide +kernel) (by decide +kernel)
theorem ex_chkC (v : Value) (w : World) (hv : BytesV w v exm) : Calls Try.prog 15 #[.agg #[.int .i64 1, .bool false], .slice none 0 0, v, .agg #[.bool true, .bool true, .bool true, .int .u16 3, .int .u16 65535], .int .u32 3] w fun e w' => e = .returned (.tuple #[.agg #[.int .u8 2, .int .u8 131, .bool false, .bool true], .int .i64 0]) ∧ Below w.heap.size w w' :=
  ex_check 131 3 3 3#16 3#32 v w hv (by decide +kernel) (by decide +kernel) (by decide +kernel)
theorem ex_chkD (v : Value) (w : World) (hv : BytesV w v [1#8]) : Calls Try.prog 15 #[.agg #[.int .i64 0, .bool false], v, .slice none 0 0, .agg #[.bool true, .bool true, .bool true, .int .u16 3, .int .u16 65535], .int .u32 0] w fun e w' => e = .returned (.tuple #[.agg #[.int .u8 0, .int .u8 0, .bool false, .bool false], .int .i64 0]) ∧ Below w.heap.size w w' := by
  have h := Check_any 0 false v (.slice none 0 0) [1#8] [] true true true 3#16 65535#16 0#32 w hv (BytesV.nil w) (by decide)
  rw [show uv 3#16 = 3 by decide +kernel, show uv 0#32 = 0 by decide +kernel, show uv 65535#16 = 65535 by decide +kernel, show Prot.chk 0 false [1#8] [] true true true 3#16 65535#16 0#32 = 0 by decide +kernel, show Prot.wr 0 false false ([] : List (BitVec 8)).length = 0 by decide +kernel] at h
  exact h
theorem ex_read (v : Value) (w : World) (hv : BytesV w v [1#8, 2#8, 3#8, 4#8, 5#8, 6#8, 7#8]) : Calls Try.prog 16 #[.agg #[.int .i64 1, .bool false], v] w fun e w' => e = .returned (.tuple #[.agg #[.int .u16 0, .int .u16 0, .int .u32 0], .int .i64 4]) ∧ Below w.heap.size w w' := by
  have h := Read_any 1 false v _ w hv
  rw [show Prot.rg 1 false [1#8, 2#8, 3#8, 4#8, 5#8, 6#8, 7#8] = 0#16 by decide +kernel, show Prot.ra 1 false [1#8, 2#8, 3#8, 4#8, 5#8, 6#8, 7#8] = 0#16 by decide +kernel, show Prot.rr 1 false [1#8, 2#8, 3#8, 4#8, 5#8, 6#8, 7#8] = 0#32 by decide +kernel, show Prot.wr 1 false true ([1#8, 2#8, 3#8, 4#8, 5#8, 6#8, 7#8] : List (BitVec 8)).length = 4 by decide +kernel] at h
  exact h
end Go.Proofs.Ytpobkgkjfebhgaa
