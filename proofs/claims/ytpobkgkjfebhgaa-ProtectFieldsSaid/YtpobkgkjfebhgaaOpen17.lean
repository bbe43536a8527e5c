/- The arguments of capsulelaw17's laws, opened. -/
import Derived.Test.YtpobkgkjfebhgaaOpen2
import Derived.Test.YtpobkgkjfebhgaaBase
namespace Go.Proofs.Ytpobkgkjfebhgaa
open Go.ChangeShapes Go.WideShapes Go.ChangeAt Go.RowKit
set_option linter.unusedVariables false
set_option linter.unusedSimpArgs false
section
variable {H : Type} {enc : TypeId × Value → H} {w : World} {sp : Nat → Bool} {held : Bool} {r : Reach} {b0 : Nat} {v : Value} {d : DataW H} {ps : List MemPlace}
set_option maxRecDepth 100000 in
theorem open_prot (hval : Value.okWide Try.prog w r b0 42 v) (h : DataW.Trod enc Try.prog w 0 sp held 42 v d ps) :
    ∃ ty fs, v = .agg #[.int .i64 ty, .bool fs] ∧ -9223372036854775808 ≤ ty ∧ ty ≤ 9223372036854775807 := by
  obtain ⟨l, rfl, hl, fuel, hf⟩ := agg_struct Try.underlying42 hval h
  obtain ⟨_, hfs⟩ := trod_fields Try.underlying42 hf
  have k_bool : Try.prog.cellsOf 4 = 1 := by kernel_rfl
  have k_int : Try.prog.cellsOf 3 = 1 := by kernel_rfl
  have e : Try.prog.cellsOf 42 = 2 := by kernel_rfl
  match l, hl.trans e with
  | [c0, c1], _ =>
    obtain ⟨_, _, h0⟩ := hfs 0 _ rfl
    change DataW.trod enc Try.prog w 0 sp held _ 3 (([c0, c1].drop 0).take (Try.prog.cellsOf 3)) = _ at h0
    rw [k_int] at h0
    obtain ⟨x0, e0, r0⟩ := cell_i64 Try.underlying3 h0
    obtain ⟨_, _, h1⟩ := hfs 1 _ rfl
    change DataW.trod enc Try.prog w 0 sp held _ 4 (([c0, c1].drop 1).take (Try.prog.cellsOf 4)) = _ at h1
    rw [k_bool] at h1
    obtain ⟨x1, e1⟩ := cell_bool Try.underlying4 h1
    cases e0
    cases e1
    exact ⟨_, _, rfl, r0⟩
set_option maxRecDepth 100000 in
theorem open_tuple (hval : Value.okWide Try.prog w r b0 40 v) (h : DataW.Trod enc Try.prog w 0 sp held 40 v d ps) :
    ∃ (g a : BitVec 16) (r : BitVec 32), v = .agg #[.int .u16 (uv g), .int .u16 (uv a), .int .u32 (uv r)] := by
  obtain ⟨l, rfl, hl, fuel, hf⟩ := agg_struct Try.underlying40 hval h
  obtain ⟨_, hfs⟩ := trod_fields Try.underlying40 hf
  have k_uint16 : Try.prog.cellsOf 22 = 1 := by kernel_rfl
  have k_uint32 : Try.prog.cellsOf 38 = 1 := by kernel_rfl
  have e : Try.prog.cellsOf 40 = 3 := by kernel_rfl
  match l, hl.trans e with
  | [c0, c1, c2], _ =>
    obtain ⟨_, _, h0⟩ := hfs 0 _ rfl
    change DataW.trod enc Try.prog w 0 sp held _ 22 (([c0, c1, c2].drop 0).take (Try.prog.cellsOf 22)) = _ at h0
    rw [k_uint16] at h0
    obtain ⟨x0, e0⟩ := cell_u16 Try.underlying22 h0
    obtain ⟨_, _, h1⟩ := hfs 1 _ rfl
    change DataW.trod enc Try.prog w 0 sp held _ 22 (([c0, c1, c2].drop 1).take (Try.prog.cellsOf 22)) = _ at h1
    rw [k_uint16] at h1
    obtain ⟨x1, e1⟩ := cell_u16 Try.underlying22 h1
    obtain ⟨_, _, h2⟩ := hfs 2 _ rfl
    change DataW.trod enc Try.prog w 0 sp held _ 38 (([c0, c1, c2].drop 2).take (Try.prog.cellsOf 38)) = _ at h2
    rw [k_uint32] at h2
    obtain ⟨x2, e2⟩ := cell_u32 Try.underlying38 h2
    cases e0
    cases e1
    cases e2
    exact ⟨_, _, _, rfl⟩
set_option maxRecDepth 100000 in
theorem open_chk (hval : Value.okWide Try.prog w r b0 24 v) (h : DataW.Trod enc Try.prog w 0 sp held 24 v d ps) :
    ∃ (g a r : Bool) (t m : BitVec 16), v = .agg #[.bool g, .bool a, .bool r, .int .u16 (uv t), .int .u16 (uv m)] := by
  obtain ⟨l, rfl, hl, fuel, hf⟩ := agg_struct Try.underlying24 hval h
  obtain ⟨_, hfs⟩ := trod_fields Try.underlying24 hf
  have k_bool : Try.prog.cellsOf 4 = 1 := by kernel_rfl
  have k_uint16 : Try.prog.cellsOf 22 = 1 := by kernel_rfl
  have e : Try.prog.cellsOf 24 = 5 := by kernel_rfl
  match l, hl.trans e with
  | [c0, c1, c2, c3, c4], _ =>
    obtain ⟨_, _, h0⟩ := hfs 0 _ rfl
    change DataW.trod enc Try.prog w 0 sp held _ 4 (([c0, c1, c2, c3, c4].drop 0).take (Try.prog.cellsOf 4)) = _ at h0
    rw [k_bool] at h0
    obtain ⟨x0, e0⟩ := cell_bool Try.underlying4 h0
    obtain ⟨_, _, h1⟩ := hfs 1 _ rfl
    change DataW.trod enc Try.prog w 0 sp held _ 4 (([c0, c1, c2, c3, c4].drop 1).take (Try.prog.cellsOf 4)) = _ at h1
    rw [k_bool] at h1
    obtain ⟨x1, e1⟩ := cell_bool Try.underlying4 h1
    obtain ⟨_, _, h2⟩ := hfs 2 _ rfl
    change DataW.trod enc Try.prog w 0 sp held _ 4 (([c0, c1, c2, c3, c4].drop 2).take (Try.prog.cellsOf 4)) = _ at h2
    rw [k_bool] at h2
    obtain ⟨x2, e2⟩ := cell_bool Try.underlying4 h2
    obtain ⟨_, _, h3⟩ := hfs 3 _ rfl
    change DataW.trod enc Try.prog w 0 sp held _ 22 (([c0, c1, c2, c3, c4].drop 3).take (Try.prog.cellsOf 22)) = _ at h3
    rw [k_uint16] at h3
    obtain ⟨x3, e3⟩ := cell_u16 Try.underlying22 h3
    obtain ⟨_, _, h4⟩ := hfs 4 _ rfl
    change DataW.trod enc Try.prog w 0 sp held _ 22 (([c0, c1, c2, c3, c4].drop 4).take (Try.prog.cellsOf 22)) = _ at h4
    rw [k_uint16] at h4
    obtain ⟨x4, e4⟩ := cell_u16 Try.underlying22 h4
    cases e0
    cases e1
    cases e2
    cases e3
    cases e4
    exact ⟨_, _, _, _, _, rfl⟩
end
end Go.Proofs.Ytpobkgkjfebhgaa
