/- The walks of capsuleref17: Tuple. -/
import Derived.Test.YtmccihngbdopdaaRef17A
namespace Go.Proofs.Ytmccihngbdopdaa
open Go.RowKit
set_option linter.unusedVariables false
set_option linter.unusedSimpArgs false

theorem or_add (a x : BitVec 64) (k : Nat) (ha : a.toNat < 2 ^ k) (hx : x.toNat * 2 ^ k < 2 ^ 64) : (a ||| x <<< k).toNat = a.toNat + x.toNat * 2 ^ k := by
  rw [BitVec.toNat_or, BitVec.toNat_shiftLeft, Nat.shiftLeft_eq, Nat.mod_eq_of_lt hx, Nat.or_comm, Nat.mul_comm, ← Nat.two_pow_add_eq_or_of_lt ha x.toNat, Nat.add_comm]
theorem set64 (x : BitVec 8) : (x.setWidth 64).toNat = x.toNat := by
  have := x.isLt
  simp; omega
theorem val2 (x0 x1 : BitVec 8) : (Prot.val [x0, x1]).toNat = x1.toNat + x0.toNat * 256 := by
  have h0 := x0.isLt; have h1 := x1.isLt
  show ((0#64 ||| x1.setWidth 64 <<< (8 * 0)) ||| x0.setWidth 64 <<< (8 * 1)).toNat = _
  have e0 : (0#64 ||| x1.setWidth 64 <<< (8 * 0)).toNat = x1.toNat := by rw [or_add _ _ _ (by simp) (by rw [set64]; omega), set64]; simp
  rw [or_add _ _ _ (by rw [e0]; omega) (by rw [set64]; omega), e0, set64]
theorem val4 (x0 x1 x2 x3 : BitVec 8) : (Prot.val [x0, x1, x2, x3]).toNat = x3.toNat + x2.toNat * 256 + x1.toNat * 65536 + x0.toNat * 16777216 := by
  have h0 := x0.isLt; have h1 := x1.isLt; have h2 := x2.isLt; have h3 := x3.isLt
  show ((((0#64 ||| x3.setWidth 64 <<< (8 * 0)) ||| x2.setWidth 64 <<< (8 * 1)) ||| x1.setWidth 64 <<< (8 * 2)) ||| x0.setWidth 64 <<< (8 * 3)).toNat = _
  have e0 : (0#64 ||| x3.setWidth 64 <<< (8 * 0)).toNat = x3.toNat := by rw [or_add _ _ _ (by simp) (by rw [set64]; omega), set64]; simp
  have e1 : ((0#64 ||| x3.setWidth 64 <<< (8 * 0)) ||| x2.setWidth 64 <<< (8 * 1)).toNat = x3.toNat + x2.toNat * 2 ^ 8 := by
    rw [or_add _ _ _ (by rw [e0]; omega) (by rw [set64]; omega), e0, set64]
  have e2 : (((0#64 ||| x3.setWidth 64 <<< (8 * 0)) ||| x2.setWidth 64 <<< (8 * 1)) ||| x1.setWidth 64 <<< (8 * 2)).toNat = x3.toNat + x2.toNat * 2 ^ 8 + x1.toNat * 2 ^ 16 := by
    rw [or_add _ _ _ (by rw [e1]; omega) (by rw [set64]; omega), e1, set64]
  rw [or_add _ _ _ (by rw [e2]; omega) (by rw [set64]; omega), e2, set64]
theorem tg_eq (x0 x1 : BitVec 8) : x0.setWidth 16 * 256#16 + x1.setWidth 16 = (Prot.val [x0, x1]).setWidth 16 := by
  have h0 := x0.isLt; have h1 := x1.isLt
  apply BitVec.eq_of_toNat_eq
  rw [BitVec.toNat_setWidth, val2]
  simp [BitVec.toNat_add, BitVec.toNat_mul]
  omega
theorem tr_eq (x0 x1 x2 x3 : BitVec 8) : ((x0.setWidth 32 * 256#32 + x1.setWidth 32) * 256#32 + x2.setWidth 32) * 256#32 + x3.setWidth 32 = (Prot.val [x0, x1, x2, x3]).setWidth 32 := by
  have h0 := x0.isLt; have h1 := x1.isLt; have h2 := x2.isLt; have h3 := x3.isLt
  apply BitVec.eq_of_toNat_eq
  rw [BitVec.toNat_setWidth, val4]
  simp [BitVec.toNat_add, BitVec.toNat_mul]
  omega

set_option maxHeartbeats 800000 in
theorem Tuple_any (v : Value) (k : List (BitVec 8)) (w : World) (hv : BytesV w v k) (h8 : k.length = 8) :
    Calls Try.prog 15 #[v] w fun e w' => e = .returned (.agg #[.int .u16 (uv (Prot.tg k)), .int .u16 (uv (Prot.ta k)), .int .u32 (uv (Prot.tr k))]) ∧ Below w.heap.size w w' := by
  obtain ⟨x0, x1, x2, x3, x4, x5, x6, x7, rfl⟩ : ∃ x0 x1 x2 x3 x4 x5 x6 x7, k = [x0, x1, x2, x3, x4, x5, x6, x7] := by
    match k, h8 with
    | [x0, x1, x2, x3, x4, x5, x6, x7], _ => exact ⟨_, _, _, _, _, _, _, _, rfl⟩
  clear h8
  obtain ⟨ad, c, rfl, _, hc, hm, hr⟩ := hv
  obtain ⟨b, o, rfl, hrow⟩ := Row.pos hr (by simp)
  clear hr
  obtain ⟨W, hW⟩ : ∃ W, W = w.alloc (.cells #[.int .u16 0, .int .u16 0, .int .u32 0] 25) := ⟨_, rfl⟩
  have hsz : W.heap.size = w.heap.size + 1 := by subst hW; simp
  have hbW : Below w.heap.size w W := by subst hW; exact gr_alloc _ _
  have hWb : W.heap[w.heap.size]? = some (.cells #[.int .u16 0, .int .u16 0, .int .u32 0] 25 (0, 0)) := by subst hW; exact heap_alloc_new _ _
  have hlt : b < w.heap.size := block_lt_of_cell (hrow 0 _ rfl)
  have q (j : Nat) (x : BitVec 8) (h : (by8 [x0, x1, x2, x3, x4, x5, x6, x7])[j]? = some (.int .u8 (uv x))) : W.cell? ⟨b, o + j, none⟩ = some (.int .u8 (uv x)) := below_get hbW (hrow j _ h)
  have q0 : W.cell? ⟨b, o, none⟩ = some (.int .u8 (uv x0)) := q 0 x0 rfl
  have q1 := q 1 x1 rfl
  have q2 := q 2 x2 rfl
  have q3 := q 3 x3 rfl
  have q4 := q 4 x4 rfl
  have q5 := q 5 x5 rfl
  have q6 := q 6 x6 rfl
  have q7 := q 7 x7 rfl
  clear q hrow
  have p0 : ∀ y : KeepT (fun k => k = w.heap.size) W, y.val.cell? ⟨b, o, none⟩ = some (.int .u8 (uv x0)) := fun y => y.cell q0 (by omega)
  have p1 : ∀ y : KeepT (fun k => k = w.heap.size) W, y.val.cell? ⟨b, o + 1, none⟩ = some (.int .u8 (uv x1)) := fun y => y.cell q1 (by omega)
  have p2 : ∀ y : KeepT (fun k => k = w.heap.size) W, y.val.cell? ⟨b, o + 2, none⟩ = some (.int .u8 (uv x2)) := fun y => y.cell q2 (by omega)
  have p3 : ∀ y : KeepT (fun k => k = w.heap.size) W, y.val.cell? ⟨b, o + 3, none⟩ = some (.int .u8 (uv x3)) := fun y => y.cell q3 (by omega)
  have HSZ := Lib.hid hsz; clear hsz
  have HBW := Lib.hid hbW; clear hbW
  have HWB := Lib.hid hWb; clear hWb
  have HW := Lib.hid hW; clear hW
  clear q0 q1 q2 q3 hm hc
  go_enter Try.func15, Try.ntmps15
  go_wp2_with fail
  rw [← HW.out]
  refine wp_loop_rounds 5 ?_
  rw [rounds_succ]
  go_wp2_with fail
  rw [rounds_succ]
  go_wp2_with fail
  rw [rounds_succ]
  go_wp2_with fail
  rw [rounds_succ]
  go_wp2_with fail
  rw [rounds_succ]
  go_wp2_with fail
  refine wp_region_plan (Keep (fun k => k = w.heap.size) W) [(true, 0), (true, 1), (true, 2), (true, 3), (true, 4), (true, 5), (true, 6), (true, 7), (true, 8), (true, 9), (true, 10), (true, 11), (true, 12), (true, 13), (true, 14), (true, 15), (true, 16), (true, 17), (true, 18), (true, 19), (true, 20), (true, 21), (false, 22)]
    (by kernel_rfl) (by kernel_rfl) (by intro c a d v w h; cases d <;> exact h) (Keep.start _ _) ?_
  repeat (refine wpS_firm rfl (fun K hK => ?_); simp only [Keep]; go_simp; refine hK _ ?_; clear hK K)
  refine wpS_chain rfl ?_
  have e1 : x0.setWidth 16 * 256#16 + x1.setWidth 16 = Prot.tg [x0, x1, x2, x3, x4, x5, x6, x7] := tg_eq x0 x1
  have e2 : x2.setWidth 16 * 256#16 + x3.setWidth 16 = Prot.ta [x0, x1, x2, x3, x4, x5, x6, x7] := tg_eq x2 x3
  have e3 : ((x4.setWidth 32 * 256#32 + x5.setWidth 32) * 256#32 + x6.setWidth 32) * 256#32 + x7.setWidth 32 = Prot.tr [x0, x1, x2, x3, x4, x5, x6, x7] := tr_eq x4 x5 x6 x7
  rw [e1, e2, e3]
  clear e1 e2 e3
  obtain ⟨g, hg⟩ : ∃ z, z = Prot.tg [x0, x1, x2, x3, x4, x5, x6, x7] := ⟨_, rfl⟩
  rw [← hg]
  have Hg := Lib.hid hg; clear hg
  obtain ⟨a, ha⟩ : ∃ z, z = Prot.ta [x0, x1, x2, x3, x4, x5, x6, x7] := ⟨_, rfl⟩
  rw [← ha]
  have Ha := Lib.hid ha; clear ha
  obtain ⟨r, hr⟩ : ∃ z, z = Prot.tr [x0, x1, x2, x3, x4, x5, x6, x7] := ⟨_, rfl⟩
  rw [← hr]
  have Hr := Lib.hid hr; clear hr
  refine wpList_store_row rfl 25 (.tmp 2) (.tmp 38) rfl w.heap.size #[.int .u16 (uv g), .int .u16 (uv a), .int .u32 (uv r)] rfl rfl 25 #[.int .u16 0, .int .u16 0, .int .u32 0] HWB.out (by kernel_rfl) rfl (by simp [Value.oneCell']) ?_
  go_wp2_with fail
  refine ⟨(Keep.start (fun k => k = w.heap.size) W).row rfl _, ?_⟩
  unfold wpS
  go_wp2_with fail
  exact bodyPost_ret (v := .agg #[.int .u16 (uv g), .int .u16 (uv a), .int .u32 (uv r)]) (results_cell_row rfl _ _ w.heap.size 25 _ (0, 0) _ rfl (setRow_heap _ _ _ _ _ _ HWB.out) Try.underlying25 rfl (by kernel_rfl)) rfl ⟨by rw [Hg.out, Ha.out, Hr.out], below_setRow (gr_tr HBW.out (gr_drew W)) (Nat.le_refl _) _⟩
end Go.Proofs.Ytmccihngbdopdaa
