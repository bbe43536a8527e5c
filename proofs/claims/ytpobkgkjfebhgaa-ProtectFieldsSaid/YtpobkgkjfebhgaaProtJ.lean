/- The walks of package protect: Check. -/
import Derived.Test.YtpobkgkjfebhgaaProtI
namespace Go.Proofs.Ytpobkgkjfebhgaa
open Go.RowKit
set_option linter.unusedVariables false
set_option linter.unusedSimpArgs false

set_option maxRecDepth 4000 in
set_option maxHeartbeats 1600000 in
theorem Check_any (ty : Int) (fs : Bool) (v mm : Value) (lv lm : List (BitVec 8)) (cg ca cr : Bool) (t m : BitVec 16) (y : BitVec 32) (w : World) (hv : BytesV w v lv) (hm : BytesV w mm lm) (hs : lv.length + lm.length ≤ 140737488355000) :
    Calls Try.prog 15 #[.agg #[.int .i64 ty, .bool fs], v, mm, .agg #[.bool cg, .bool ca, .bool cr, .int .u16 (uv t), .int .u16 (uv m)], .int .u32 (uv y)] w fun e w' => e = .returned (.tuple #[.agg (Prot.st (Prot.chk ty fs lv lm cg ca cr t m y)), .int .i64 (Prot.wr ty fs false lm.length)]) ∧ Below w.heap.size w w' := by
  have hh : (((w.alloc (.cells #[.int .i64 ty, .bool fs] 42)).alloc (.cells #[.bool cg, .bool ca, .bool cr, .int .u16 (uv t), .int .u16 (uv m)] 24)).alloc (.cells #[.int .u8 0, .int .u8 0, .bool false, .bool false] 56)).heap[w.heap.size + 1 + 1]? = some (.cells #[.int .u8 0, .int .u8 0, .bool false, .bool false] 56 (0, 0)) := by
    have e : w.heap.size + 1 + 1 = ((w.alloc (.cells #[.int .i64 ty, .bool fs] 42)).alloc (.cells #[.bool cg, .bool ca, .bool cr, .int .u16 (uv t), .int .u16 (uv m)] 24)).heap.size := by simp
    rw [e]; exact heap_alloc_new _ _
  have hb3 : Below w.heap.size w (((w.alloc (.cells #[.int .i64 ty, .bool fs] 42)).alloc (.cells #[.bool cg, .bool ca, .bool cr, .int .u16 (uv t), .int .u16 (uv m)] 24)).alloc (.cells #[.int .u8 0, .int .u8 0, .bool false, .bool false] 56)) := gr_tr (gr_tr (gr_alloc _ _) (gr_alloc _ _)) (gr_alloc _ _)
  have HH := Lib.hid hh; clear hh
  have HB3 := Lib.hid hb3; clear hb3
  obtain ⟨n, hn⟩ : ∃ n, Prot.wr ty fs false lm.length = n := ⟨_, rfl⟩
  unfold Prot.chk
  rw [hn]
  have HN := Lib.hid hn; clear hn
  have HV := Lib.hid hv; clear hv
  have HM := Lib.hid hm; clear hm
  have hs1 : lv.length + lm.length ≤ 140737488355328 := by omega
  have HS1 := Lib.hid hs1; clear hs1 hs
  have hc := HN.out ▸ Prot.wr_cases ty fs false lm.length
  rcases hc with rfl | rfl | rfl
  · obtain ⟨x, hx⟩ : ∃ g, Prot.guard ty fs lv lm = g := ⟨_, rfl⟩
    rw [hx]
    have hgx : (if (0 : Int) = 0 then uv (Prot.guard ty fs lv lm) else 0) = uv x := by rw [if_pos rfl, hx]
    have HX := Lib.hid hgx; clear hgx hx
    by_cases h0 : ty = 0
    · subst h0
      go_enter Try.func15, Try.ntmps15
      go_wp2_with (first
        | (go_at_call 22; refine (Guard_at _ _ _ _ _ _ _ 0 _ (HV.out.below HB3.out) (HM.out.below HB3.out) HS1.out HN.out HX.out).mono ?_; rintro e w1 ⟨rfl, hw1⟩; have d0 : w1.cell? ⟨w.heap.size, 0, none⟩ = some (.int .i64 0) := below_get hw1 (by simp [go_sem]); have S1 := Lib.hid ((hw1.block _ (block_lt HH.out)).trans HH.out); have B1 := Lib.hid (gr_tr HB3.out hw1); clear hw1)
        | (refine wpList_store_row rfl 56 (.tmp 10) _ rfl (w.heap.size + 1 + 1) #[.int .u8 0, .int .u8 0, .bool false, .bool false] rfl rfl 56 #[.int .u8 0, .int .u8 0, .bool false, .bool false] S1.out (by kernel_rfl) rfl (by simp [Value.oneCell']) ?_))
      exact bodyPost_ret (results_row_tmp rfl _ _ (w.heap.size + 1 + 1) 56 _ (0, 0) _ rfl (setRow_heap _ _ _ _ _ _ S1.out) Try.underlying56 rfl (by kernel_rfl)) rfl ⟨rfl, below_setRow B1.out (by omega) _⟩
    · have hq : (ty == 0) = false := by simpa using h0
      have hn2 := Prot.wr_true HN.out hq
      rw [if_pos rfl, if_neg h0]
      obtain ⟨g, hg⟩ : ∃ g, Prot.tg (Prot.cut fs lm) = g := ⟨_, rfl⟩
      obtain ⟨a, ha⟩ : ∃ g, Prot.ta (Prot.cut fs lm) = g := ⟨_, rfl⟩
      obtain ⟨r, hr⟩ : ∃ g, Prot.tr (Prot.cut fs lm) = g := ⟨_, rfl⟩
      obtain ⟨es, hes⟩ : ∃ b, Prot.esc ty a r = b := ⟨_, rfl⟩
      rw [hg, ha, hr, hes]
      have HN2 := Lib.hid hn2; clear hn2 h0
      have HG := Lib.hid hg; clear hg
      have HA := Lib.hid ha; clear ha
      have HR := Lib.hid hr; clear hr
      have HES := Lib.hid hes; clear hes
      cases es
      · exact Check_loop ty fs v mm lv lm cg ca cr t m y g a r x w HV.out HM.out HS1.out HN.out HN2.out hq HG.out HA.out HR.out HX.out HES.out
      · go_enter Try.func15, Try.ntmps15
        go_wp2_with (first
          | (go_at_call 22; refine (Guard_at _ _ _ _ _ _ _ 0 _ (HV.out.below HB3.out) (HM.out.below HB3.out) HS1.out HN.out HX.out).mono ?_; rintro e w1 ⟨rfl, hw1⟩; have d0 : w1.cell? ⟨w.heap.size, 0, none⟩ = some (.int .i64 ty) := below_get hw1 (by simp [go_sem]); have d1 : w1.cell? ⟨w.heap.size, 1, none⟩ = some (.bool fs) := below_get hw1 (by simp [go_sem]); have S1 := Lib.hid ((hw1.block _ (block_lt HH.out)).trans HH.out); have B1 := Lib.hid (gr_tr HB3.out hw1); clear hw1)
          | (go_at_call 16; refine (Read_at _ _ _ _ g a r _ (HM.out.below B1.out) HN2.out HG.out HA.out HR.out).mono ?_; rintro e w2 ⟨rfl, hw2⟩; replace d0 := below_get hw2 d0; replace d1 := below_get hw2 d1; have S2 := Lib.hid ((hw2.block _ (block_lt S1.out)).trans S1.out); have B2 := Lib.hid (gr_tr B1.out hw2); clear hw2)
          | (refine wpList_store_new rfl 40 (.tmp 14) _ rfl #[.int .u16 (uv g), .int .u16 (uv a), .int .u32 (uv r)] 40 #[.int .u16 0, .int .u16 0, .int .u32 0] rfl rfl (by kernel_rfl) rfl (by simp [Value.oneCell']) ?_; intro w3 hr3 hb3; replace d0 := below_get hb3 d0; replace d1 := below_get hb3 d1; have k0 := cell_of_row _ _ 0 _ _ _ hr3; have k1 := cell_of_row _ _ 1 _ _ _ hr3; have k2 := cell_of_row _ _ 2 _ _ _ hr3; simp at k0 k1 k2; have S3 := Lib.hid ((hb3.block _ (block_lt S2.out)).trans S2.out); have B3 := Lib.hid (gr_tr B2.out hb3); clear hr3 hb3)
          | (go_at_call 28; refine (escapes_any _ _ _ _ _ _ _ HES.out).mono ?_; rintro e w4 ⟨rfl, hw4⟩; have S4 := Lib.hid ((hw4.block _ (block_lt S3.out)).trans S3.out); have B4 := Lib.hid (gr_tr B3.out hw4); clear hw4)
          | (refine wpList_store_row rfl 56 (.tmp 10) _ rfl (w.heap.size + 1 + 1) #[.int .u8 0, .int .u8 0, .bool false, .bool false] rfl rfl 56 #[.int .u8 0, .int .u8 0, .bool false, .bool false] S4.out (by kernel_rfl) rfl (by simp [Value.oneCell']) ?_))
        exact bodyPost_ret (results_row_tmp rfl _ _ (w.heap.size + 1 + 1) 56 _ (0, 0) _ rfl (setRow_heap _ _ _ _ _ _ S4.out) Try.underlying56 rfl (by kernel_rfl)) rfl ⟨rfl, below_setRow B4.out (by omega) _⟩
  all_goals
    go_enter Try.func15, Try.ntmps15
    go_wp2_with (first
      | (go_at_call 22; refine (Guard_at _ _ _ _ _ _ 0 _ _ (HV.out.below HB3.out) (HM.out.below HB3.out) HS1.out HN.out rfl).mono ?_; rintro e w1 ⟨rfl, hw1⟩; have S1 := Lib.hid ((hw1.block _ (block_lt HH.out)).trans HH.out); have B1 := Lib.hid (gr_tr HB3.out hw1); clear hw1)
      | (refine wpList_store_row rfl 56 (.tmp 10) _ rfl (w.heap.size + 1 + 1) #[.int .u8 0, .int .u8 0, .bool false, .bool false] rfl rfl 56 #[.int .u8 0, .int .u8 0, .bool false, .bool false] S1.out (by kernel_rfl) rfl (by simp [Value.oneCell']) ?_))
    exact bodyPost_ret (results_row_tmp rfl _ _ (w.heap.size + 1 + 1) 56 _ (0, 0) _ rfl (setRow_heap _ _ _ _ _ _ S1.out) Try.underlying56 rfl (by kernel_rfl)) rfl ⟨rfl, below_setRow B1.out (by omega) _⟩
end Go.Proofs.Ytpobkgkjfebhgaa
