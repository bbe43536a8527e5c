/- The law IdentifyIDs: the walk. -/
import Derived.Test.YtccllneifkeimaaRefIdD
import Derived.Test.YtccllneifkeimaaSelfEq
import Derived.Test.YtccllneifkeimaaLaw24A
namespace Go.Proofs.Ytccllneifkeimaa
open Go.RowKit Idn
set_option linter.unusedVariables false
set_option linter.unusedSimpArgs false
theorem bytes_cell (l : List (BitVec 8)) (xs : Array Value) (a b : List Value) (hx : xs.toList = a ++ (by8 l ++ b)) (i : Nat) (hi : i < l.length) : ∃ n, xs[a.length + i]? = some (.int .u8 n) := by
  refine ⟨uv l[i], ?_⟩
  rw [← Array.getElem?_toList, hx, List.getElem?_append_right (by omega), Nat.add_sub_cancel_left, List.getElem?_append_left (by simpa using hi), by8_get, List.getElem?_eq_getElem hi]; rfl
theorem selfAt_bytes {d : Nat} {t : TypeId} {n : Nat} {xs : Array Value} (hu : Try.prog.underlying t = some (.array n 5)) (ht : (Try.prog.info? t).isSome = true) (hm : Try.prog.cellsOf t = n)
    (l : List (BitVec 8)) (a b : List Value) (off : Nat) (ha : a.length = off) (hx : xs.toList = a ++ (by8 l ++ b)) (hl : l.length = n) : SelfAt Try.prog (d + 2) t xs off := by
  refine selfAt_arr hu ht hm (by kernel_rfl) (show Try.prog.cellsOf 5 = 1 by kernel_rfl) fun i hi => ?_
  obtain ⟨v, hv⟩ := bytes_cell l xs a b hx i (by omega)
  refine selfAt_int (k := .u8) (a := v) Try.underlying5 ?_
  rw [Nat.mul_one, Array.getElem?_extract, ← ha, hv]
  have hs : i < min (a.length + n) xs.size - a.length := by
    have : xs.size = a.length + (l.length + b.length) := by rw [← Array.length_toList, hx]; simp
    omega
  rw [if_pos hs]
set_option maxRecDepth 100000 in
theorem ids_eql (x : Ids) (hx : Ids.Ok x) (w : World) : (binOp .eql 44 (.agg (Ids.cells x).toArray) (.agg (Ids.cells x).toArray)).run Try.prog w = .ok (.bool true) w := by
  obtain ⟨h1, h2, h3⟩ := hx
  refine eql_self (fun w => self_struct (by kernel_rfl) (by kernel_rfl) ?_ w) w
  have hc := Ids.cells_eq x
  rw [show Try.prog.fieldsOf 44 = _ from by unfold Program.fieldsOf; rw [Try.underlying44]]
  simp only [List.forall_mem_cons, List.not_mem_nil, false_implies, implies_true, and_true]
  refine ⟨?_, ?_, ?_, ?_⟩
  · exact selfAt_bytes (d := 9997) (t := 41) Try.underlying41 (by kernel_rfl) (by kernel_rfl) x.e [] _ 0 rfl (by rw [List.nil_append]; exact hc) h1
  · exact selfAt_bytes (d := 9997) (t := 42) Try.underlying42 (by kernel_rfl) (by kernel_rfl) x.g (by8 x.e) _ 8 (by simp [h1]) hc h2
  · exact selfAt_bytes (d := 9997) (t := 42) Try.underlying42 (by kernel_rfl) (by kernel_rfl) x.u (by8 x.e ++ by8 x.g) _ 24 (by simp [h1, h2]) (by rw [List.append_assoc]; exact hc) h3
  · refine selfAt_int (d := 9998) (k := .u8) (a := uv x.set) Try.underlying5 ?_
    rw [List.getElem?_toArray, hc, ← List.append_assoc, ← List.append_assoc, List.getElem?_append_right (by simp [h1, h2, h3])]
    simp [h1, h2, h3]
theorem idsB_len (x : Ids) (hx : Ids.Ok x) : (idsB x).length = 4096 := by
  have := idsO_len x hx 4
  unfold idsB; rw [List.length_append, List.length_replicate]; omega
set_option maxHeartbeats 6400000 in
set_option maxRecDepth 100000 in
theorem lawIDs (x : Ids) (at' more : Int) (by' : BitVec 8) (w : World) (hx : Ids.Ok x) (ha : -9223372036854775808 ≤ at' ∧ at' ≤ 9223372036854775807) (hm : -9223372036854775808 ≤ more ∧ more ≤ 9223372036854775807) :
    Calls Try.prog 6 #[.agg (Ids.cells x).toArray, .agg #[.int .i64 at', .int .u8 (uv by'), .int .i64 more]] w fun e w' => e = .returned (.bool true) ∧ Below w.heap.size w w' := by
  obtain ⟨W, hW⟩ : ∃ W, W = (w.alloc (.cells (Ids.cells x).toArray 44)).alloc (.cells #[.int .i64 at', .int .u8 (uv by'), .int .i64 more] 46) := ⟨_, rfl⟩
  have D := Lib.hid (show Below w.heap.size w W by rw [hW]; exact gr_tr (gr_alloc w _) (gr_alloc _ _))
  have XA := Lib.hid (show W.heap[w.heap.size]? = some (.cells (Ids.cells x).toArray 44 (0, 0)) by rw [hW]; exact blk_below (heap_alloc_new w _) (gr_alloc _ _))
  have XS := Lib.hid (show W.heap[w.heap.size + 1]? = some (.cells #[.int .i64 at', .int .u8 (uv by'), .int .i64 more] 46 (0, 0)) by rw [hW]; have := heap_alloc_new (w.alloc (.cells (Ids.cells x).toArray 44)) (.cells #[.int .i64 at', .int .u8 (uv by'), .int .i64 more] 46); rwa [World.size_alloc] at this)
  have HW := Lib.hid hW
  obtain ⟨B, hB, hBl⟩ : ∃ B, idsB x = B ∧ B.length = 4096 := ⟨_, rfl, idsB_len x hx⟩
  have HOK := Lib.hid hx
  have SZ := Lib.hid (cells_sz hx)
  clear hx
  have HB := Lib.hid hB; have HBL := Lib.hid hBl; have HA := Lib.hid ha; have HM := Lib.hid hm
  clear hW hB hBl ha hm
  go_enter Try.func6, Try.ntmps6
  go_upto_region 1 with (fail)
  first
    | rw [← HW.out]
    | (show Code.wp _ _ _ _ ((w.alloc (.cells (Ids.cells x).toArray 44)).alloc (.cells #[.int .i64 at', .int .u8 (uv by'), .int .i64 more] 46)); rw [← HW.out])
  go_upto_region 5 with (first
    | (refine wpList_load_row rfl 44 (.tmp 2) rfl w.heap.size rfl 44 (Ids.cells x).toArray (0, 0) _ XA.out Try.underlying44 rfl (by rw [SZ.out]; kernel_rfl) ?_)
    | (refine wpList_load_row rfl 46 (.tmp 3) rfl (w.heap.size + 1) rfl 46 _ (0, 0) _ XS.out Try.underlying46 rfl (by kernel_rfl) ?_)
    | (go_at_call 17; go_loud (refine (rEncI_at x _ HOK.out).mono ?_; rw [HB.out]; rintro r w1 ⟨u, rfl, hu, hw⟩; replace XA := Lib.hid (blk_below XA.out hw); replace XS := Lib.hid (blk_below XS.out hw); have A := Lib.hid hu; replace D := Lib.hid (gr_tr D.out hw); clear hw hu))
    | (go_at_call 18; go_loud (refine (EncI_at x _ HOK.out).mono ?_; rw [HB.out]; rintro r w2 ⟨v, rfl, hv, hw⟩; replace XS := Lib.hid (blk_below XS.out hw); replace A := Lib.hid (A.out.below hw); have A2 := Lib.hid hv; replace D := Lib.hid (gr_tr D.out hw); clear hw hv))
    | (go_at_call 14; go_loud (refine (Same_any _ _ _ _ _ A2.out A.out).mono ?_; rintro r w4 ⟨rfl, hw4⟩; subst hw4; rw [show (B == B) = true from beq_self_eq_true _]))
    | (go_at_call 19; go_loud (refine (spoil_any _ B at' more by' _ A.out (by have := HBL.out; omega) HA.out HM.out).mono ?_; rintro r w5 ⟨bv, l, rfl, hv, hl, hw⟩; have BV := Lib.hid hv; have HL := Lib.hid (show l.length ≤ 140737488355328 by have := HBL.out; omega); replace D := Lib.hid (gr_tr D.out hw); clear hw hv hl)))
  obtain ⟨y, e, hye⟩ : ∃ y e, decV rdI okI idsB idsZ l = (y, e) := ⟨_, _, rfl⟩
  have HYE := Lib.hid hye
  have hyo := decI_ok hye
  have SZY := Lib.hid (cells_sz hyo)
  have heq := ids_eql y hyo
  have hee : (e == e) = true := beq_self_eq_true e
  clear hye hyo
  go_upto_region 6 with (first
    | (go_at_call 20; go_loud (refine (Decode_Ids l _ _ y e SZY.out BV.out HL.out HYE.out).mono ?_; rintro r w6 ⟨rfl, hw⟩; replace BV := Lib.hid (BV.out.below hw); replace D := Lib.hid (gr_tr D.out hw); clear hw))
    | (refine wpList_store_new rfl 44 (.tmp 7) (.tmp 24) rfl (Ids.cells y).toArray 44 _ rfl rfl (by rw [SZY.out]; kernel_rfl) (by rw [SZY.out]; rfl) (Ids.cells_one _) ?_; intro w7 hh hb; have Y7 := Lib.hid hh; replace BV := Lib.hid (BV.out.below hb); replace D := Lib.hid (gr_tr D.out hb); clear hh hb))
  go_upto_region 7 with (first
    | (go_at_call 21; go_loud (refine (rDecode_Ids l _ _ y e BV.out HL.out HYE.out).mono ?_; rintro r w8 ⟨rfl, hw⟩; have Y8 := Lib.hid (blk_below Y7.out hw); replace D := Lib.hid (gr_tr D.out hw); clear hw))
    | (refine wpList_store_new rfl 44 (.tmp 9) (.tmp 29) rfl (Ids.cells y).toArray 44 _ rfl rfl (by rw [SZY.out]; kernel_rfl) (by rw [SZY.out]; rfl) (Ids.cells_one _) ?_; intro w9 hh hb; have Z9 := Lib.hid hh; have Y9 := Lib.hid (blk_below Y8.out hb); replace D := Lib.hid (gr_tr D.out hb); clear hh hb))
  go_wp2_with (first
    | (refine wpList_load_row rfl 44 (.tmp 7) rfl w6.heap.size rfl 44 (Ids.cells y).toArray (0, 0) _ Y9.out Try.underlying44 rfl (by rw [SZY.out]; kernel_rfl) ?_)
    | (refine wpList_load_row rfl 44 (.tmp 9) rfl w8.heap.size rfl 44 (Ids.cells y).toArray (0, 0) _ Z9.out Try.underlying44 rfl (by rw [SZY.out]; kernel_rfl) ?_)
    | (go_at_call 11; go_loud (refine (known_any _).mono ?_; rintro r wk ⟨rfl, hw⟩; replace D := Lib.hid (gr_tr D.out hw); clear hw)))
  go_ret
  exact ⟨rfl, D.out⟩
end Go.Proofs.Ytccllneifkeimaa
