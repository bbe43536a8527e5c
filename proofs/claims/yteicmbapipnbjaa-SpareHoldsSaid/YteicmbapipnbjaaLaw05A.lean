/- The walks of capsulelaw05: same; the examples of the chapter. -/
import Derived.Test.YteicmbapipnbjaaSpareP
import Derived.Laws.StructEq
namespace Go.Proofs.Yteicmbapipnbjaa
open Go.RowKit
set_option linter.unusedVariables false
set_option linter.unusedSimpArgs false
theorem same5_any (v u : Value) (l m : List (BitVec 8)) (w : World) (hv : BytesV w v l) (hu : BytesV w u m) :
    Calls Try.prog 11 #[v, u] w fun e w' => e = .returned (.bool (l == m)) ∧ w = w' := by
  have h1 := run_string hv
  have h2 := run_string hu
  have h3 := strOf_beq l m
  obtain ⟨a, c, rfl, _, _, _, _⟩ := hv
  obtain ⟨a', c', rfl, _, _, _, _⟩ := hu
  go_enter Try.func11, Try.ntmps11
  go_wp2
  go_ret
  exact ⟨rfl, rfl⟩
theorem same5_at (v u : Value) (l m : List (BitVec 8)) (b : Bool) (w : World) (hv : BytesV w v l) (hu : BytesV w u m) (hb : (l == m) = b) :
    Calls Try.prog 11 #[v, u] w fun e w' => e = .returned (.bool b) ∧ w = w' := by subst hb; exact same5_any v u l m w hv hu
/-- Two equal descriptions. -/
theorem sp_equalIn (k s q p i n : Int) (w : World) : (Op.equalIn 10000 25 (.agg #[.int .u8 k, .int .i64 s, .int .u64 q, .int .u64 p, .int .i64 i, .int .i64 n]) (.agg #[.int .u8 k, .int .i64 s, .int .u64 q, .int .u64 p, .int .i64 i, .int .i64 n])).run Try.prog w = .ok true w := by
  have hS : Try.prog.underlying 25 = some (.struct (Try.prog.fieldsOf 25)) := by kernel_rfl
  have hp : Try.prog.stoodInHeld 25 = false := by kernel_rfl
  have u1 := Try.underlying22
  have u2 := Try.underlying23
  have u3 := Try.underlying3
  rw [show (10000 : Nat) = 9999 + 1 from rfl, run_equalIn_agg w 9999 25 _ _ hS hp]
  simp only [Program.fieldsOf, Try.underlying25]
  go_simp
  try simp
theorem sp_eql (k s q p i n : Int) (w : World) : (binOp .eql 25 (.agg #[.int .u8 k, .int .i64 s, .int .u64 q, .int .u64 p, .int .i64 i, .int .i64 n]) (.agg #[.int .u8 k, .int .i64 s, .int .u64 q, .int .u64 p, .int .i64 i, .int .i64 n])).run Try.prog w = .ok (.bool true) w := by
  rw [run_eql_struct, sp_equalIn]; rfl
theorem sp_neq (k s q p i n : Int) (w : World) : (binOp .neq 25 (.agg #[.int .u8 k, .int .i64 s, .int .u64 q, .int .u64 p, .int .i64 i, .int .i64 n]) (.agg #[.int .u8 k, .int .i64 s, .int .u64 q, .int .u64 p, .int .i64 i, .int .i64 n])).run Try.prog w = .ok (.bool false) w := by
  rw [run_neq_struct, sp_equalIn]; rfl
/-! the examples -/
namespace Sp
def exE : List (BitVec 8) := enc 1#8 7 300#64 0#64 0 1 []
theorem exE_valid : valid 1#8 7 300#64 0#64 0 1 = true := by decide +kernel
theorem exE_len : exE.length = 64 := enc_len ..
theorem exE_cells : exE[4]? = some 1#8 ∧ exE[24]? = some 7#8 ∧ exE[28]? = some 0#8 ∧ exE[32]? = some 1#8 ∧ (exE.drop 8).take 3 = [44#8, 1#8, 0#8] := by decide +kernel
theorem exE_err : err [] exE = 0 ∧ err [0#8] exE = 10 := ⟨err_enc [] exE_valid, by decide +kernel⟩
theorem exE_val : valC [] exE = #[.int .u8 1, .int .i64 7, .int .u64 300, .int .u64 0, .int .i64 0, .int .i64 1] := by
  rw [val_good exE_err.1]
  obtain ⟨a1, a2, a3, a4, a5, a6⟩ := enc_fields [] exE_valid
  unfold exE
  rw [a1, a2, a3, a4, a5, a6]
  rfl
end Sp
theorem ex_enc (w : World) : Calls Try.prog 9 #[.agg #[.int .u8 1, .int .i64 7, .int .u64 300, .int .u64 0, .int .i64 0, .int .i64 1], .slice none 0 0] w fun e w' => ∃ x, e = .returned (.tuple #[x, .int .i64 0]) ∧ BytesV w' x Sp.exE ∧ Below w.heap.size w w' := by
  have h := Encode5_ok 1#8 7 300#64 0#64 0 1 (.slice none 0 0) [] w Sp.exE_valid (BytesV.nil w) (by simp)
  exact h.mono fun e w' ⟨x, he, ho, hb⟩ => ⟨x, he, BytesV.of_own ho, hb⟩
theorem ex_decA (v : Value) (w : World) (hv : BytesV w v Sp.exE) : Calls Try.prog 15 #[v, .slice none 0 0] w fun e w' => e = .returned (.tuple #[.agg #[.int .u8 1, .int .i64 7, .int .u64 300, .int .u64 0, .int .i64 0, .int .i64 1], .int .i64 0]) ∧ Below w.heap.size w w' :=
  Decode5_any v _ Sp.exE [] _ 0 w hv (BytesV.nil w) (by simp) Sp.exE_val Sp.exE_err.1
theorem ex_decB (v u : Value) (w : World) (hv : BytesV w v Sp.exE) (hu : BytesV w u [0#8]) : Calls Try.prog 15 #[v, u] w fun e w' => e = .returned (.tuple #[.agg #[.int .u8 0, .int .i64 0, .int .u64 0, .int .u64 0, .int .i64 0, .int .i64 0], .int .i64 10]) ∧ Below w.heap.size w w' :=
  Decode5_any v u Sp.exE [0#8] _ 10 w hv hu (by simp) (Sp.val_bad Sp.exE_err.2 (by omega)) Sp.exE_err.2
theorem ex_decC (v : Value) (w : World) (hv : BytesV w v (Sp.exE.take 63)) : Calls Try.prog 15 #[v, .slice none 0 0] w fun e w' => e = .returned (.tuple #[.agg #[.int .u8 0, .int .i64 0, .int .u64 0, .int .u64 0, .int .i64 0, .int .i64 0], .int .i64 2]) ∧ Below w.heap.size w w' := by
  have h : Sp.err [] (Sp.exE.take 63) = 2 := if_neg (by rw [List.length_take, Sp.exE_len]; decide)
  exact Decode5_any v _ (Sp.exE.take 63) [] _ 2 w hv (BytesV.nil w) (by simp) (Sp.val_bad h (by omega)) h
theorem ex_valA (w : World) : Calls Try.prog 13 #[.agg #[.int .u8 1, .int .i64 0, .int .u64 0, .int .u64 0, .int .i64 0, .int .i64 1]] w fun e w' => e = .returned (.bool false) ∧ Below w.heap.size w w' :=
  Valid_any 1#8 0 0#64 0#64 0 1 false w (by decide +kernel)
theorem ex_valB (w : World) : Calls Try.prog 13 #[.agg #[.int .u8 2, .int .i64 0, .int .u64 5, .int .u64 4, .int .i64 0, .int .i64 1]] w fun e w' => e = .returned (.bool true) ∧ Below w.heap.size w w' :=
  Valid_any 2#8 0 5#64 4#64 0 1 true w (by decide +kernel)
theorem ex_valC (w : World) : Calls Try.prog 13 #[.agg #[.int .u8 2, .int .i64 0, .int .u64 5, .int .u64 4, .int .i64 1, .int .i64 2]] w fun e w' => e = .returned (.bool false) ∧ Below w.heap.size w w' :=
  Valid_any 2#8 0 5#64 4#64 1 2 false w (by decide +kernel)
end Go.Proofs.Yteicmbapipnbjaa
