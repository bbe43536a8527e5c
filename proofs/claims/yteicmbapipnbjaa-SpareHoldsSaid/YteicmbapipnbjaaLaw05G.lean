/- SpareHolds: its array argument by its list of bytes. -/
import Derived.Test.YteicmbapipnbjaaLaw05F
namespace Go.Proofs.Yteicmbapipnbjaa
open Go.RowKit
theorem lawHolds (k : BitVec 8) (s : Int) (q p : BitVec 64) (i n : Int) (v : Value) (l : List (BitVec 8)) (K : Int) (c : List (BitVec 8)) (w : World) (hv : BytesV w v l) (hK : -9223372036854775808 ≤ K ∧ K ≤ 9223372036854775807) (hc : c.length = 4) :
    Calls Try.prog 5 #[.agg #[.int .u8 (uv k), .int .i64 s, .int .u64 (uv q), .int .u64 (uv p), .int .i64 i, .int .i64 n], v, .int .i64 K, .agg (by8 c).toArray] w fun e w' => e = .returned (.bool true) ∧ Below w.heap.size w w' := by
  match c, hc with
  | [c0, c1, c2, c3], _ => exact lawHolds4 k s q p i n v l K c0 c1 c2 c3 w hv hK
end Go.Proofs.Yteicmbapipnbjaa
