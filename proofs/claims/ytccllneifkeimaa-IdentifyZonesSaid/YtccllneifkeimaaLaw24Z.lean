/- The law IdentifyZones: the walk. -/
import Derived.Test.YtccllneifkeimaaRefZn
import Derived.Test.YtccllneifkeimaaLaw24A
namespace Go.Proofs.Ytccllneifkeimaa
open Go.RowKit Idn
set_option linter.unusedVariables false
set_option linter.unusedSimpArgs false
set_option maxHeartbeats 1600000 in
theorem zn_equalIn (a b : Bool) (c d e f : Int) (w : World) : (Op.equalIn 10000 68 (.agg #[.bool a, .bool b, .int .u32 c, .int .u32 d, .int .u64 e, .int .u8 f]) (.agg #[.bool a, .bool b, .int .u32 c, .int .u32 d, .int .u64 e, .int .u8 f])).run Try.prog w = .ok true w := by
  have hS : Try.prog.underlying 68 = some (.struct (Try.prog.fieldsOf 68)) := by kernel_rfl
  have hp : Try.prog.stoodInHeld 68 = false := by kernel_rfl
  have u1 := Try.underlying4
  have u2 := Try.underlying54
  have u3 := Try.underlying23
  have u4 := Try.underlying5
  rw [show (10000 : Nat) = 9999 + 1 from rfl, run_equalIn_agg w 9999 68 _ _ hS hp]
  simp only [Program.fieldsOf, Try.underlying68]
  go_simp
  try simp
theorem zn_eql (x : Zn) (w : World) : (binOp .eql 68 (.agg (Zn.cells x).toArray) (.agg (Zn.cells x).toArray)).run Try.prog w = .ok (.bool true) w := by
  have h := zn_equalIn x.vary x.across (uv x.active) (uv x.openz) (uv x.size) (uv x.ext) w
  rw [run_eql_struct]
  show ((Op.equalIn 10000 68 (.agg #[.bool x.vary, .bool x.across, .int .u32 (uv x.active), .int .u32 (uv x.openz), .int .u64 (uv x.size), .int .u8 (uv x.ext)]) (.agg #[.bool x.vary, .bool x.across, .int .u32 (uv x.active), .int .u32 (uv x.openz), .int .u64 (uv x.size), .int .u8 (uv x.ext)])).run Try.prog w).andThen _ = _
  rw [h]; rfl
theorem znB_at (x : Zn) : ∃ B, znB x = B ∧ B.length = 4096 := ⟨_, rfl, znB_len x⟩
theorem dec_zn (l : List (BitVec 8)) : decV rdZr okZ znB znZ l = decV rdZ okZ znB znZ l :=
  decV_eq _ _ _ _ _ (fun _ => True) (fun _ => trivial) (fun _ => trivial) (fun x _ _ => rdZr_back x) (fun x _ _ => rdZ_back x) l
set_option maxHeartbeats 6400000 in
set_option maxRecDepth 100000 in
theorem lawZones (x : Zn) (at' more : Int) (by' : BitVec 8) (w : World) (ha : -9223372036854775808 ≤ at' ∧ at' ≤ 9223372036854775807) (hm : -9223372036854775808 ≤ more ∧ more ≤ 9223372036854775807) :
    Calls Try.prog 8 #[.agg (Zn.cells x).toArray, .agg #[.int .i64 at', .int .u8 (uv by'), .int .i64 more]] w fun e w' => e = .returned (.bool true) ∧ Below w.heap.size w w' := by
  obtain ⟨W, hW⟩ : ∃ W, W = (w.alloc (.cells (Zn.cells x).toArray 68)).alloc (.cells #[.int .i64 at', .int .u8 (uv by'), .int .i64 more] 46) := ⟨_, rfl⟩
  have D := Lib.hid (show Below w.heap.size w W by rw [hW]; exact gr_tr (gr_alloc w _) (gr_alloc _ _))
  have XA := Lib.hid (show W.heap[w.heap.size]? = some (.cells (Zn.cells x).toArray 68 (0, 0)) by rw [hW]; exact blk_below (heap_alloc_new w _) (gr_alloc _ _))
  have XS := Lib.hid (show W.heap[w.heap.size + 1]? = some (.cells #[.int .i64 at', .int .u8 (uv by'), .int .i64 more] 46 (0, 0)) by rw [hW]; have := heap_alloc_new (w.alloc (.cells (Zn.cells x).toArray 68)) (.cells #[.int .i64 at', .int .u8 (uv by'), .int .i64 more] 46); rwa [World.size_alloc] at this)
  have HW := Lib.hid hW
  obtain ⟨B, hB, hBl⟩ := znB_at x
  have HB := Lib.hid hB; have HBL := Lib.hid hBl; have HA := Lib.hid ha; have HM := Lib.hid hm
  clear hW hB hBl ha hm
  go_enter Try.func8, Try.ntmps8
  go_upto_region 1 with (fail)
  first
    | rw [← HW.out]
    | (show Code.wp _ _ _ _ ((w.alloc (.cells (Zn.cells x).toArray 68)).alloc (.cells #[.int .i64 at', .int .u8 (uv by'), .int .i64 more] 46)); rw [← HW.out])
  go_upto_region 5 with (first
    | (refine wpList_load_row rfl 68 (.tmp 2) rfl w.heap.size rfl 68 (Zn.cells x).toArray (0, 0) _ XA.out Try.underlying68 rfl (by kernel_rfl) ?_)
    | (refine wpList_load_row rfl 46 (.tmp 3) rfl (w.heap.size + 1) rfl 46 _ (0, 0) _ XS.out Try.underlying46 rfl (by kernel_rfl) ?_)
    | (go_at_call 26; go_loud (refine (rEncZ_at x _).mono ?_; rw [HB.out]; rintro r w1 ⟨u, rfl, hu, hw⟩; replace XA := Lib.hid (blk_below XA.out hw); replace XS := Lib.hid (blk_below XS.out hw); have A := Lib.hid hu; replace D := Lib.hid (gr_tr D.out hw); clear hw hu))
    | (go_at_call 27; go_loud (refine (EncZ_at x _).mono ?_; rw [HB.out]; rintro r w2 ⟨v, rfl, hv, hw⟩; replace XS := Lib.hid (blk_below XS.out hw); replace A := Lib.hid (A.out.below hw); have A2 := Lib.hid hv; replace D := Lib.hid (gr_tr D.out hw); clear hw hv))
    | (go_at_call 14; go_loud (refine (Same_any _ _ _ _ _ A2.out A.out).mono ?_; rintro r w4 ⟨rfl, hw4⟩; subst hw4; rw [show (B == B) = true from beq_self_eq_true _]))
    | (go_at_call 19; go_loud (refine (spoil_any _ B at' more by' _ A.out (by have := HBL.out; omega) HA.out HM.out).mono ?_; rintro r w5 ⟨bv, l, rfl, hv, hl, hw⟩; have BV := Lib.hid hv; have HL := Lib.hid (show l.length ≤ 140737488355328 by have := HBL.out; omega); replace D := Lib.hid (gr_tr D.out hw); clear hw hv hl)))
  obtain ⟨y, e, hye⟩ : ∃ y e, decV rdZ okZ znB znZ l = (y, e) := ⟨_, _, rfl⟩
  have HYE := Lib.hid hye
  have HYR := Lib.hid (show decV rdZr okZ znB znZ l = (y, e) by rw [dec_zn]; exact hye)
  have heq := zn_eql y
  have hee : (e == e) = true := beq_self_eq_true e
  clear hye
  go_upto_region 6 with (first
    | (go_at_call 28; go_loud (refine (Decode_Zn l _ _ y e BV.out HL.out HYE.out).mono ?_; rintro r w6 ⟨rfl, hw⟩; replace BV := Lib.hid (BV.out.below hw); replace D := Lib.hid (gr_tr D.out hw); clear hw))
    | (refine wpList_store_new rfl 68 (.tmp 7) (.tmp 24) rfl (Zn.cells y).toArray 68 _ rfl rfl (by kernel_rfl) rfl (Zn.cells_one _) ?_; intro w7 hh hb; have Y7 := Lib.hid hh; replace BV := Lib.hid (BV.out.below hb); replace D := Lib.hid (gr_tr D.out hb); clear hh hb))
  go_upto_region 7 with (first
    | (go_at_call 29; go_loud (refine (rDecode_Zn l _ _ y e BV.out HL.out HYR.out).mono ?_; rintro r w8 ⟨rfl, hw⟩; have Y8 := Lib.hid (blk_below Y7.out hw); replace D := Lib.hid (gr_tr D.out hw); clear hw))
    | (refine wpList_store_new rfl 68 (.tmp 9) (.tmp 29) rfl (Zn.cells y).toArray 68 _ rfl rfl (by kernel_rfl) rfl (Zn.cells_one _) ?_; intro w9 hh hb; have Z9 := Lib.hid hh; have Y9 := Lib.hid (blk_below Y8.out hb); replace D := Lib.hid (gr_tr D.out hb); clear hh hb))
  go_wp2_with (first
    | (refine wpList_load_row rfl 68 (.tmp 7) rfl w6.heap.size rfl 68 (Zn.cells y).toArray (0, 0) _ Y9.out Try.underlying68 rfl (by kernel_rfl) ?_)
    | (refine wpList_load_row rfl 68 (.tmp 9) rfl w8.heap.size rfl 68 (Zn.cells y).toArray (0, 0) _ Z9.out Try.underlying68 rfl (by kernel_rfl) ?_)
    | (go_at_call 11; go_loud (refine (known_any _).mono ?_; rintro r wk ⟨rfl, hw⟩; replace D := Lib.hid (gr_tr D.out hw); clear hw)))
  go_ret
  exact ⟨rfl, D.out⟩
end Go.Proofs.Ytccllneifkeimaa
