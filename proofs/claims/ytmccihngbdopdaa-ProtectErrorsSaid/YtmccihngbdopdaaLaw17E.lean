/- The walk of capsulelaw17.ProtectCodes. -/
import Derived.Test.YtmccihngbdopdaaLaw17D
namespace Go.Proofs.Ytmccihngbdopdaa
open Go.RowKit
set_option linter.unusedVariables false
set_option linter.unusedSimpArgs false

theorem BytesV.keepT {w : World} {v : Value} {l : List (BitVec 8)} (h : BytesV w v l) (y : KeepT nowhere w) : BytesV y.val v l := by
  obtain ⟨a, c, e, h0, h1, h2, h3⟩ := h
  refine ⟨a, c, e, h0, h1, h2, ?_⟩
  rcases h3 with h | ⟨b, o, rfl, h⟩
  · exact .inl h
  · refine .inr ⟨b, o, rfl, fun i hi => ?_⟩
    rw [List.getElem?_eq_getElem hi]
    exact y.cell ((h i hi).trans (List.getElem?_eq_getElem hi)) id
/-- A whole row read in a planned region. -/
theorem wpS_load_row {P : Program} {ops : Array Oper} {Q : Exit → Act → World → Prop} {S : World → Prop} {a : Act} {w : World} {i : Nat} {r : List (Bool × Nat)} {o : Oper} (ho : ops[i]? = some o) (hw : Region.wanted o (yielded ops a.tmps) = true) (ty : TypeId) (x : Operand) (hop : o.op = .load ty x)
    (g : Nat) (hx : a.eval x = .pointer (some ⟨g, 0, none⟩)) (t : TypeId) (cs : Array Value) (fr : Nat × Nat) (d : TypeDesc) (hg : ∀ x, S x → x.heap[g]? = some (.cells cs t fr))
    (hu : P.underlying ty = some d) (hd : (match d with | .struct _ | .array _ _ => true | _ => false) = true) (hi : (P.info? ty).map (·.size) = some cs.size)
    (h : wpS P ops Q S r (a.put o.dst (.agg cs)) w) : wpS P ops Q S ((true, i) :: r) a w := by
  refine ⟨o, ho, ?_⟩
  rw [if_pos hw]
  refine ⟨.agg cs, fun x hS => ?_, h⟩
  unfold execOp
  simp only [hop, hx, Instr.loadAt, Instr.sureAddr, Sem.run_bind, Sem.run_pure, Result.andThen_ok, run_loadVar_row x g t ty cs fr d (hg x hS) hu hd hi]
theorem Keep.blk {w x : World} {g : Nat} {o : Obj} (h : Keep nowhere w x) (hg : w.heap[g]? = some o) : x.heap[g]? = some o := by
  obtain ⟨y, rfl⟩ := h
  exact (y.block g (block_lt hg) id).trans hg
theorem Decode_at (l : List (BitVec 8)) (g a : BitVec 16) (r : BitVec 32) (w : World) (hl : l.length = 8) (hg : Prot.tg l = g) (ha : Prot.ta l = a) (hr : Prot.tr l = r) :
    Calls Try.prog 14 #[.agg (by8 l).toArray] w fun e w' => e = .returned (.agg #[.int .u16 (uv g), .int .u16 (uv a), .int .u32 (uv r)]) ∧ Below w.heap.size w w' := by
  subst hg ha hr; exact Decode_any l w hl
theorem Decode_at' (l : List (BitVec 8)) (R : Array Value) (g a : BitVec 16) (r : BitVec 32) (w : World) (hl : l.length = 8) (hR : R = (by8 l).toArray) (hg : Prot.tg l = g) (ha : Prot.ta l = a) (hr : Prot.tr l = r) :
    Calls Try.prog 14 #[.agg R] w fun e w' => e = .returned (.agg #[.int .u16 (uv g), .int .u16 (uv a), .int .u32 (uv r)]) ∧ Below w.heap.size w w' := by
  subst hR; exact Decode_at l g a r w hl hg ha hr
theorem Tag_at (ty : Int) (fs : Bool) (t : BitVec 32) (i : Int) (x : BitVec 32) (n : Int) (w : World) (hi : -9223372036854775808 ≤ i ∧ i ≤ 9223372036854775807) (hx : Prot.tag ty fs t i = x) (hn : Prot.te ty fs i = n) :
    Calls Try.prog 11 #[.agg #[.int .i64 ty, .bool fs], .int .u32 (uv t), .int .i64 i] w fun e w' => e = .returned (.tuple #[.int .u32 (uv x), .int .i64 n]) ∧ Below w.heap.size w w' := by
  subst hx hn; exact Tag_any ty fs t i w hi
theorem rTag_at (ty : Int) (fs : Bool) (t : BitVec 32) (i : Int) (x : BitVec 32) (n : Int) (w : World) (hx : Prot.tag ty fs t i = x) (hn : Prot.te ty fs i = n) :
    Calls Try.prog 12 #[.agg #[.int .i64 ty, .bool fs], .int .u32 (uv t), .int .i64 i] w fun e w' => e = .returned (.tuple #[.int .u32 (uv x), .int .i64 n]) ∧ Below w.heap.size w w' := by
  subst hx hn; exact rTag_any ty fs t i w
set_option maxRecDepth 4000 in
set_option maxHeartbeats 3200000 in
theorem lawCodes (g a : BitVec 16) (r : BitVec 32) (l : List (BitVec 8)) (ty : Int) (fs : Bool) (f : BitVec 32) (i : Int) (w : World) (hl : l.length = 8) (_ : -9223372036854775808 ≤ ty ∧ ty ≤ 9223372036854775807) (hi : -9223372036854775808 ≤ i ∧ i ≤ 9223372036854775807) :
    Calls Try.prog 3 #[.agg #[.int .u16 (uv g), .int .u16 (uv a), .int .u32 (uv r)], .agg (by8 l).toArray, .agg #[.int .i64 ty, .bool fs], .int .u32 (uv f), .int .i64 i] w fun e w' => e = .returned (.bool true) ∧ Below w.heap.size w w' := by
  obtain ⟨k, hk⟩ : ∃ k, Prot.bytes g a r = k := ⟨_, rfl⟩
  have hk8 : k.length = 8 := by rw [← hk]; exact Prot.bytes_len g a r
  obtain ⟨x, hx⟩ : ∃ x, Prot.tag ty fs f i = x := ⟨_, rfl⟩
  obtain ⟨n, hn⟩ : ∃ x, Prot.te ty fs i = x := ⟨_, rfl⟩
  obtain ⟨v, hv⟩ : ∃ x, Prot.valid ty fs = x := ⟨_, rfl⟩
  obtain ⟨g2, hg2⟩ : ∃ x, Prot.tg l = x := ⟨_, rfl⟩
  obtain ⟨a2, ha2⟩ : ∃ x, Prot.ta l = x := ⟨_, rfl⟩
  obtain ⟨r2, hr2⟩ : ∃ x, Prot.tr l = x := ⟨_, rfl⟩
  obtain ⟨R, hR⟩ : ∃ R, R = (by8 l).toArray := ⟨_, rfl⟩
  have HQ := Lib.hid (tup_eql g2 a2 g2 a2 r2 r2)
  have HK := Lib.hid hk; clear hk
  have HK8 := Lib.hid hk8; clear hk8
  have HX := Lib.hid hx; clear hx
  have HN := Lib.hid hn; clear hn
  have HV := Lib.hid hv; clear hv
  have HG2 := Lib.hid hg2; clear hg2
  have HA2 := Lib.hid ha2; clear ha2
  have HR2 := Lib.hid hr2; clear hr2
  have HL := Lib.hid hl; clear hl
  have HI := Lib.hid hi; clear hi
  obtain ⟨W, hW⟩ : ∃ W, W = ((w.alloc (.cells #[.int .u16 (uv g), .int .u16 (uv a), .int .u32 (uv r)] 25)).alloc (.cells R 26)).alloc (.cells #[.int .i64 ty, .bool fs] 28) := ⟨_, rfl⟩
  have hb1 : Below w.heap.size w W := by subst hW; exact gr_tr (gr_tr (gr_alloc _ _) (gr_alloc _ _)) (gr_alloc _ _)
  have hA : W.heap[w.heap.size + 1]? = some (.cells R 26 (0, 0)) := by
    subst hW
    have h1 := heap_alloc_new (w.alloc (.cells #[.int .u16 (uv g), .int .u16 (uv a), .int .u32 (uv r)] 25)) (.cells R 26)
    rw [show (w.alloc (.cells #[.int .u16 (uv g), .int .u16 (uv a), .int .u32 (uv r)] 25)).heap.size = w.heap.size + 1 by simp] at h1
    exact blk_below h1 (gr_alloc _ _)
  have d0 : W.cell? ⟨w.heap.size, 0, none⟩ = some (.int .u16 (uv g)) := by subst hW; simp [go_sem]
  have d1 : W.cell? ⟨w.heap.size, 1, none⟩ = some (.int .u16 (uv a)) := by subst hW; simp [go_sem]
  have d2 : W.cell? ⟨w.heap.size, 2, none⟩ = some (.int .u32 (uv r)) := by subst hW; simp [go_sem]
  have d3 : W.cell? ⟨w.heap.size + 1 + 1, 0, none⟩ = some (.int .i64 ty) := by subst hW; simp [go_sem]
  have d4 : W.cell? ⟨w.heap.size + 1 + 1, 1, none⟩ = some (.bool fs) := by subst hW; simp [go_sem]
  have B := Lib.hid hb1; clear hb1
  have A := Lib.hid hA; clear hA
  have HW := Lib.hid hW; clear hW
  rw [← hR]
  have HRR := Lib.hid hR; clear hR
  go_enter Try.func3, Try.ntmps3
  go_upto_region 1 with fail
  rw [← HW.out]
  go_upto_region 4 with (first
    | (go_at_call 10; (with_reducible refine (Encode_at _ _ _ k _ HK.out).mono ?_); rintro e w1 ⟨rfl, hw⟩; replace d0 := below_get hw d0; replace d1 := below_get hw d1; replace d2 := below_get hw d2; replace d3 := below_get hw d3; replace d4 := below_get hw d4; replace A := Lib.hid (blk_below A.out hw); replace B := Lib.hid (gr_tr B.out hw); clear hw)
    | (refine wpList_store_new rfl 26 (.tmp 11) _ rfl (by8 k).toArray 26 #[.int .u8 0, .int .u8 0, .int .u8 0, .int .u8 0, .int .u8 0, .int .u8 0, .int .u8 0, .int .u8 0] rfl rfl (info8 HK8.out) (old8 HK8.out) (one8 k) ?_; intro w2 hr hw; have E := Lib.hid hr; replace d0 := below_get hw d0; replace d1 := below_get hw d1; replace d2 := below_get hw d2; replace d3 := below_get hw d3; replace d4 := below_get hw d4; replace A := Lib.hid (blk_below A.out hw); replace B := Lib.hid (gr_tr B.out hw); clear hr hw)
    | (go_at_call 11; (with_reducible refine (Tag_at _ _ _ _ x n _ HI.out HX.out HN.out).mono ?_); rintro e w3 ⟨rfl, hw⟩; replace d0 := below_get hw d0; replace d1 := below_get hw d1; replace d2 := below_get hw d2; replace d3 := below_get hw d3; replace d4 := below_get hw d4; replace A := Lib.hid (blk_below A.out hw); replace E := Lib.hid (blk_below E.out hw); replace B := Lib.hid (gr_tr B.out hw); clear hw)
    | (go_at_call 12; (with_reducible refine (rTag_at _ _ _ _ x n _ HX.out HN.out).mono ?_); rintro e w4 ⟨rfl, hw⟩; replace d0 := below_get hw d0; replace d1 := below_get hw d1; replace d2 := below_get hw d2; replace d3 := below_get hw d3; replace d4 := below_get hw d4; replace A := Lib.hid (blk_below A.out hw); replace E := Lib.hid (blk_below E.out hw); replace B := Lib.hid (gr_tr B.out hw); clear hw))
  have e1 : BytesV w4 (.slice (some ⟨w1.heap.size, 0, none⟩) 8 8) k := BytesV.of_row E.out 8 HK8.out.symm (by omega)
  have e2 : BytesV w4 (.slice (some ⟨w.heap.size + 1, 0, none⟩) 8 8) l := BytesV.of_row (by rw [← HRR.out]; exact A.out) 8 HL.out.symm (by omega)
  have E2 := Lib.hid e2
  have s1 : ∀ y : KeepT nowhere w4, (convert 35 9 (.slice (some ⟨w1.heap.size, 0, none⟩) 8 8)).run Try.prog y.val = .ok (.string (strOf k)) y.val := fun y => str_at (e1.keepT y)
  have c0 : ∀ y : KeepT nowhere w4, y.val.cell? ⟨w.heap.size, 0, none⟩ = some (.int .u16 (uv g)) := fun y => y.cell d0 id
  have c1 : ∀ y : KeepT nowhere w4, y.val.cell? ⟨w.heap.size, 1, none⟩ = some (.int .u16 (uv a)) := fun y => y.cell d1 id
  have c2 : ∀ y : KeepT nowhere w4, y.val.cell? ⟨w.heap.size, 2, none⟩ = some (.int .u32 (uv r)) := fun y => y.cell d2 id
  have c3 : ∀ y : KeepT nowhere w4, y.val.cell? ⟨w.heap.size + 1 + 1, 0, none⟩ = some (.int .i64 ty) := fun y => y.cell d3 id
  have c4 : ∀ y : KeepT nowhere w4, y.val.cell? ⟨w.heap.size + 1 + 1, 1, none⟩ = some (.bool fs) := fun y => y.cell d4 id
  have hq := HQ.out
  clear d0 d1 d2 d3 d4 e1 e2
  refine wp_region_planW nowhere [(true, 0), (true, 1), (true, 2), (false, 3), (false, 4), (true, 5), (true, 6), (true, 7), (true, 9), (false, 8), (false, 10), (true, 11), (true, 12), (true, 13), (true, 14), (true, 16), (false, 15), (false, 17), (true, 18), (true, 19), (true, 20), (true, 21), (true, 22), (true, 23), (true, 24), (true, 25), (true, 26), (true, 28), (false, 27), (true, 29), (true, 30), (true, 31), (false, 32), (true, 33), (true, 34)]
    (by kernel_rfl) (by kernel_rfl) (by intro c a d v w h; cases d <;> exact h) ?_
  intro W1 KW1 CW1
  repeat (refine wpS_firm rfl (fun K hK => ?_); simp only [Keep]; go_simp; refine hK _ ?_; clear hK K)
  refine wpS_chain rfl ?_
  go_wp2_with (go_at_call 13; refine (Bytes_any g a r _).mono ?_; rintro e w5 ⟨u, rfl, hu, hw⟩; have Kw5 := Lib.hid (KW1.out.below hw); have Cw5 := Lib.hid (gr_tr CW1.out hw); rw [HK.out] at hu; have U := Lib.hid (BytesV.of_own (l := k) (by rw [HK8.out]; exact hu)); clear hu; clear hw)
  refine ⟨Kw5.out, ?_⟩
  refine wpS_chain rfl ?_
  have su := str_at U.out
  go_wp2_with fail
  refine ⟨Kw5.out, ?_⟩
  clear su
  (refine wpS_firm rfl (fun K hK => ?_); simp only [Keep]; go_simp; refine hK _ ?_; clear hK K)
  (refine wpS_firm rfl (fun K hK => ?_); simp only [Keep]; go_simp; refine hK _ ?_; clear hK K)
  refine wpS_load_row rfl rfl 26 (.tmp 6) rfl (w.heap.size + 1) rfl 26 R (0, 0) _ (fun x hx => hx.blk A.out) Try.underlying26 rfl (by rw [HRR.out]; exact info8 HL.out) ?_
  (refine wpS_firm rfl (fun K hK => ?_); simp only [Keep]; go_simp; refine hK _ ?_; clear hK K)
  refine wpS_chain rfl ?_
  go_wp2_with (go_at_call 14; refine (Decode_at' _ R g2 a2 r2 _ HL.out HRR.out HG2.out HA2.out HR2.out).mono ?_; rintro e w6 ⟨rfl, hw⟩; have Kw6 := Lib.hid (Kw5.out.below hw); have Cw6 := Lib.hid (gr_tr Cw5.out hw); clear hw)
  refine ⟨Kw6.out, ?_⟩
  refine wpS_chain rfl ?_
  go_wp2_with (go_at_call 15; refine (Tuple_at _ l g2 a2 r2 _ (E2.out.below Cw6.out) HL.out HG2.out HA2.out HR2.out).mono ?_; rintro e w7 ⟨rfl, hw⟩; have Kw7 := Lib.hid (Kw6.out.below hw); have Cw7 := Lib.hid (gr_tr Cw6.out hw); clear hw)
  refine ⟨Kw7.out, ?_⟩
  repeat (refine wpS_firm rfl (fun K hK => ?_); simp only [Keep]; go_simp; refine hK _ ?_; clear hK K)
  refine wpS_chain rfl ?_
  go_wp2_with (go_at_call 16; refine (Valid_at _ _ v _ HV.out).mono ?_; rintro e w8 ⟨rfl, hw⟩; have Kw8 := Lib.hid (Kw7.out.below hw); have Cw8 := Lib.hid (gr_tr Cw7.out hw); clear hw)
  refine ⟨Kw8.out, ?_⟩
  refine wpS_chain rfl ?_
  go_wp2_with (go_at_call 17; refine (rValid_at _ _ v _ HV.out).mono ?_; rintro e w9 ⟨rfl, hw⟩; have Kw9 := Lib.hid (Kw8.out.below hw); have Cw9 := Lib.hid (gr_tr Cw8.out hw); clear hw)
  refine ⟨Kw9.out, ?_⟩
  repeat (refine wpS_firm rfl (fun K hK => ?_); simp only [Keep]; go_simp; refine hK _ ?_; clear hK K)
  refine wpS_chain rfl ?_
  go_wp2_with (go_at_call 18; refine (num_any _ _).mono ?_; rintro e w' ⟨rfl, rfl⟩)
  refine ⟨Kw9.out, ?_⟩
  repeat (refine wpS_firm rfl (fun K hK => ?_); simp only [Keep]; go_simp; refine hK _ ?_; clear hK K)
  refine wpS_chain rfl ?_
  go_wp2_with (go_at_call 19; refine (works_any _).mono ?_; rintro e w10 ⟨rfl, hw⟩; have Kw10 := Lib.hid (Kw9.out.below hw); have Cw10 := Lib.hid (gr_tr Cw9.out hw); clear hw)
  refine ⟨Kw10.out, ?_⟩
  repeat (refine wpS_firm rfl (fun K hK => ?_); simp only [Keep]; go_simp; refine hK _ ?_; clear hK K)
  unfold wpS
  go_wp2_with fail
  go_ret
  exact ⟨rfl, gr_tr B.out Cw10.out⟩
end Go.Proofs.Ytmccihngbdopdaa
