/- Descriptions of pages: spare.Decode as a whole; Name. -/
import Derived.Test.YteicmbapipnbjaaSpareM
import Derived.Test.YteicmbapipnbjaaSpareMath
namespace Go.Proofs.Yteicmbapipnbjaa
open Go.RowKit
set_option linter.unusedVariables false
set_option linter.unusedSimpArgs false
namespace Sp
def valC (d b : List (BitVec 8)) : Array Value := if err d b = 0 then #[.int .u8 (uv (fk b)), .int .i64 (fs b), .int .u64 (uv (fq b)), .int .u64 (uv (fp b)), .int .i64 (fi b), .int .i64 (fn b)] else #[.int .u8 0, .int .i64 0, .int .u64 0, .int .u64 0, .int .i64 0, .int .i64 0]
theorem val_bad {d b : List (BitVec 8)} {n : Int} (h : err d b = n) (hn : n ≠ 0) : valC d b = #[.int .u8 0, .int .i64 0, .int .u64 0, .int .u64 0, .int .i64 0, .int .i64 0] := if_neg (by rw [h]; exact hn)
theorem val_good {d b : List (BitVec 8)} (h : err d b = 0) : valC d b = #[.int .u8 (uv (fk b)), .int .i64 (fs b), .int .u64 (uv (fq b)), .int .u64 (uv (fp b)), .int .i64 (fi b), .int .i64 (fn b)] := if_pos h
end Sp
theorem get4_lt (m : List (BitVec 8)) (h : m.length ≤ 4) : uv (Wire.get m) < 4294967296 := by
  have h1 := Wire.get_high m (by omega)
  have h2 : (Wire.get m).toNat < 2 ^ 32 := by
    have h3 : Wire.get m >>> 32 = 0#64 := by
      apply BitVec.eq_of_getLsbD_eq
      intro i hi
      rw [BitVec.getLsbD_ushiftRight]
      by_cases hh : 32 + i < 64
      · rw [Wire.get_bit _ _ hh]
        have : ¬ (32 + i < 8 * m.length) := by omega
        simp [this]
      · rw [BitVec.getLsbD_of_ge _ _ (by omega)]; simp
    have h4 := congrArg BitVec.toNat h3
    rw [BitVec.toNat_ushiftRight, Nat.shiftRight_eq_div_pow] at h4
    simp at h4
    omega
  unfold uv; omega
theorem get1_lt (m : List (BitVec 8)) (h : m.length ≤ 4) : uv (Wire.get m) < 4294967296 := get4_lt m h
theorem Decode5_any (v u : Value) (b d : List (BitVec 8)) (c : Array Value) (n : Int) (w : World) (hv : BytesV w v b) (hu : BytesV w u d) (hs : d.length ≤ 1000000) (hc : Sp.valC d b = c) (hn : Sp.err d b = n) :
    Calls Try.prog 15 #[v, u] w fun e w' => e = .returned (.tuple #[.agg c, .int .i64 n]) ∧ Below w.heap.size w w' := by
  by_cases h : b.length = 64
  · by_cases hx : Wire.get (b.drop 60) = Sp.sumOf d b
    · have he : Sp.err d b = if Sp.good b then 0 else 6 := by unfold Sp.err; rw [if_pos h, if_pos hx]
      have t4 : (b.take 4).length ≤ 4 := by simp; omega
      cases hmg : Sp.mg b
      · have hg : Sp.good b = false := by unfold Sp.good; rw [hmg]; rfl
        rw [hg] at he
        obtain rfl : n = 6 := hn.symm.trans he
        rw [Sp.val_bad he (by omega)] at hc
        subst hc
        exact Decode5_magic v u b d _ _ w hv hu h hs hx rfl rfl (get4_lt _ t4) hmg
      · cases hz : Sp.nz3 b
        · have := Decode5_rest v u (Sp.nz24 b) (Sp.vl b) b d _ _ _ _ _ _ _ _ w hv hu h hs hx rfl rfl (get4_lt _ t4) hmg rfl (get4_lt _ (by simp; omega)) hz rfl rfl rfl (get4_lt _ (by simp; omega)) rfl (get4_lt _ (by simp; omega)) rfl (get4_lt _ (by simp; omega)) rfl rfl
          refine this.mono ?_
          rintro e w' ⟨rfl, hb⟩
          refine ⟨?_, hb⟩
          have hg : Sp.good b = (!Sp.nz24 b && Sp.vl b) := by unfold Sp.good; rw [hmg, hz]; simp
          rw [hg] at he
          unfold Sp.decV
          cases h2 : (!Sp.nz24 b && Sp.vl b)
          · rw [h2] at he
            obtain rfl : n = 6 := hn.symm.trans he
            rw [Sp.val_bad he (by omega)] at hc
            subst hc; rfl
          · rw [h2] at he
            obtain rfl : n = 0 := hn.symm.trans he
            rw [Sp.val_good he] at hc
            subst hc; rfl
        · have hg : Sp.good b = false := by unfold Sp.good; rw [hmg, hz]; rfl
          rw [hg] at he
          obtain rfl : n = 6 := hn.symm.trans he
          rw [Sp.val_bad he (by omega)] at hc
          subst hc
          exact Decode5_zero v u b d _ _ _ w hv hu h hs hx rfl rfl (get4_lt _ t4) hmg rfl (get4_lt _ (by simp; omega)) hz
    · have he : Sp.err d b = 10 := by unfold Sp.err; rw [if_pos h, if_neg hx]
      obtain rfl : n = 10 := hn.symm.trans he
      rw [Sp.val_bad he (by omega)] at hc
      subst hc
      exact Decode5_sum v u b d _ _ w hv hu h hs rfl rfl (beq_eq_false_iff_ne.2 hx)
  · have he : Sp.err d b = 2 := by unfold Sp.err; rw [if_neg h]
    obtain rfl : n = 2 := hn.symm.trans he
    rw [Sp.val_bad he (by omega)] at hc
    subst hc
    exact Decode5_len v u b w hv h
namespace Sp
def nameOf (k : BitVec 8) : ByteArray := if uv k = 1 then ⟨#[100, 97, 116, 97]⟩ else if uv k = 2 then ⟨#[100, 101, 108, 116, 97]⟩ else if uv k = 3 then ⟨#[99, 104, 101, 99, 107, 112, 111, 105, 110, 116]⟩ else ⟨#[]⟩
end Sp
theorem names_any (w : World) : Calls Try.prog 39 #[] w fun e w' => e = .returned (.agg #[.string ⟨#[]⟩, .string ⟨#[100, 97, 116, 97]⟩, .string ⟨#[100, 101, 108, 116, 97]⟩, .string ⟨#[99, 104, 101, 99, 107, 112, 111, 105, 110, 116]⟩]) ∧ Below w.heap.size w w' := by
  go_enter Try.func39, Try.ntmps39
  go_wp2
  refine bodyPost_ret (v := .agg #[.string ⟨#[]⟩, .string ⟨#[100, 97, 116, 97]⟩, .string ⟨#[100, 101, 108, 116, 97]⟩, .string ⟨#[99, 104, 101, 99, 107, 112, 111, 105, 110, 116]⟩]) (by simp [results, Try.results39, go_sem]) rfl ⟨rfl, ?_⟩
  exact gr_alloc _ _
end Go.Proofs.Yteicmbapipnbjaa
