/- The arguments of capsulelaw05's laws, opened. -/
import Derived.Test.YteicmbapipnbjaaOpen2
import Derived.Test.YteicmbapipnbjaaBase
namespace Go.Proofs.Yteicmbapipnbjaa
open Go.ChangeShapes Go.WideShapes Go.ChangeAt Go.RowKit
set_option linter.unusedVariables false
set_option linter.unusedSimpArgs false
section
variable {H : Type} {enc : TypeId × Value → H} {w : World} {sp : Nat → Bool} {held : Bool} {r : Reach} {b0 : Nat} {v : Value} {d : DataW H} {ps : List MemPlace}
set_option maxRecDepth 100000 in
theorem open_spare (hval : Value.okWide Try.prog w r b0 25 v) (h : DataW.Trod enc Try.prog w 0 sp held 25 v d ps) :
    ∃ (k : BitVec 8) (s : Int) (q p : BitVec 64) (i n : Int), v = .agg #[.int .u8 (uv k), .int .i64 s, .int .u64 (uv q), .int .u64 (uv p), .int .i64 i, .int .i64 n] ∧ True := by
  obtain ⟨l, rfl, hl, fuel, hf⟩ := agg_struct Try.underlying25 hval h
  obtain ⟨_, hfs⟩ := trod_fields Try.underlying25 hf
  have k_api_SpareKind : Try.prog.cellsOf 22 = 1 := by kernel_rfl
  have k_int : Try.prog.cellsOf 3 = 1 := by kernel_rfl
  have k_uint64 : Try.prog.cellsOf 23 = 1 := by kernel_rfl
  have e : Try.prog.cellsOf 25 = 6 := by kernel_rfl
  match l, hl.trans e with
  | [c0, c1, c2, c3, c4, c5], _ =>
    obtain ⟨_, _, h0⟩ := hfs 0 _ rfl
    change DataW.trod enc Try.prog w 0 sp held _ 22 (([c0, c1, c2, c3, c4, c5].drop 0).take (Try.prog.cellsOf 22)) = _ at h0
    rw [k_api_SpareKind] at h0
    obtain ⟨x0, e0⟩ := cell_u8 Try.underlying22 h0
    obtain ⟨_, _, h1⟩ := hfs 1 _ rfl
    change DataW.trod enc Try.prog w 0 sp held _ 3 (([c0, c1, c2, c3, c4, c5].drop 1).take (Try.prog.cellsOf 3)) = _ at h1
    rw [k_int] at h1
    obtain ⟨x1, e1, r1⟩ := cell_i64 Try.underlying3 h1
    obtain ⟨_, _, h2⟩ := hfs 2 _ rfl
    change DataW.trod enc Try.prog w 0 sp held _ 23 (([c0, c1, c2, c3, c4, c5].drop 2).take (Try.prog.cellsOf 23)) = _ at h2
    rw [k_uint64] at h2
    obtain ⟨x2, e2⟩ := cell_u64 Try.underlying23 h2
    obtain ⟨_, _, h3⟩ := hfs 3 _ rfl
    change DataW.trod enc Try.prog w 0 sp held _ 23 (([c0, c1, c2, c3, c4, c5].drop 3).take (Try.prog.cellsOf 23)) = _ at h3
    rw [k_uint64] at h3
    obtain ⟨x3, e3⟩ := cell_u64 Try.underlying23 h3
    obtain ⟨_, _, h4⟩ := hfs 4 _ rfl
    change DataW.trod enc Try.prog w 0 sp held _ 3 (([c0, c1, c2, c3, c4, c5].drop 4).take (Try.prog.cellsOf 3)) = _ at h4
    rw [k_int] at h4
    obtain ⟨x4, e4, r4⟩ := cell_i64 Try.underlying3 h4
    obtain ⟨_, _, h5⟩ := hfs 5 _ rfl
    change DataW.trod enc Try.prog w 0 sp held _ 3 (([c0, c1, c2, c3, c4, c5].drop 5).take (Try.prog.cellsOf 3)) = _ at h5
    rw [k_int] at h5
    obtain ⟨x5, e5, r5⟩ := cell_i64 Try.underlying3 h5
    cases e0
    cases e1
    cases e2
    cases e3
    cases e4
    cases e5
    exact ⟨_, _, _, _, _, _, rfl, trivial⟩
end
end Go.Proofs.Yteicmbapipnbjaa
