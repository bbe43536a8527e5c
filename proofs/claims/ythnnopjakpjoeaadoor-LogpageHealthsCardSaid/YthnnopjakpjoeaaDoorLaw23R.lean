/- The law LogpageHealths: the walk. Printed by genlaw23r.py. -/
import Derived.Test.YthnnopjakpjoeaaDoorLaw23A
import Derived.Test.YthnnopjakpjoeaaDoorLogHM
import Derived.Test.YthnnopjakpjoeaaDoorLogT
import Derived.Test.YthnnopjakpjoeaaDoorSelfEq
namespace Go.Proofs.YthnnopjakpjoeaaDoor
open Go.RowKit Lg
set_option linter.unusedVariables false
set_option linter.unusedSimpArgs false
theorem wpS_load_rowH {P : Program} {ops : Array Oper} {Q : Exit → Act → World → Prop} {S : World → Prop} {a : Act} {w : World} {i : Nat} {r : List (Bool × Nat)} {o : Oper} (ho : ops[i]? = some o) (hw : Region.wanted o (yielded ops a.tmps) = true) (ty : TypeId) (x : Operand) (hop : o.op = .load ty x)
    (g : Nat) (hx : a.eval x = .pointer (some ⟨g, 0, none⟩)) (t : TypeId) (cs : Array Value) (fr : Nat × Nat) (d : TypeDesc) (hg : ∀ x, S x → x.heap[g]? = some (.cells cs t fr))
    (hu : P.underlying ty = some d) (hd : (match d with | .struct _ | .array _ _ => true | _ => false) = true) (hi : (P.info? ty).map (·.size) = some cs.size)
    (h : wpS P ops Q S r (a.put o.dst (.agg cs)) w) : wpS P ops Q S ((true, i) :: r) a w := by
  refine ⟨o, ho, ?_⟩
  rw [if_pos hw]
  refine ⟨.agg cs, fun x hS => ?_, h⟩
  unfold execOp
  simp only [hop, hx, Instr.loadAt, Instr.sureAddr, Sem.run_bind, Sem.run_pure, Result.andThen_ok, run_loadVar_row x g t ty cs fr d (hg x hS) hu hd hi]
theorem Keep.blkH {w x : World} {g : Nat} {o : Obj} (h : Keep nowhere w x) (hg : w.heap[g]? = some o) : x.heap[g]? = some o := by
  obtain ⟨y, rfl⟩ := h
  exact (y.block g (Array.getElem?_eq_some_iff.1 hg).1 id).trans hg
theorem ext_getH {xs : Array Value} {a n j : Nat} (hj : j < n) (hs : a + n ≤ xs.size) : (xs.extract a (a + n))[j]? = xs[a + j]? := by
  rw [Array.getElem?_extract, if_pos (by omega)]
set_option maxRecDepth 100000 in
theorem hl_eql (x : Hl) (h : x.counters.length = 10) (w : World) : (binOp .eql 132 (.agg (Hl.cells x).toArray) (.agg (Hl.cells x).toArray)).run Tryd.prog w = .ok (.bool true) w := by
  have hz := hl_size x h
  have hc : ∀ (j : Nat) (v : Value), (Hl.cells x)[j]? = some v → (Hl.cells x).toArray[j]? = some v := fun j v h => by rw [List.getElem?_toArray]; exact h
  have hk : ∀ i, i < 10 → ∃ c : BitVec 64, (Hl.cells x).toArray[5 + i]? = some (.int .u64 (uv c)) := fun i hi => by
    refine ⟨x.counters[i]'(by rw [h]; exact hi), hc _ _ ?_⟩
    rw [hl_cells, List.getElem?_append_right (by simp)]
    show (wd x.counters)[5 + i - 5]? = _
    unfold wd
    rw [show 5 + i - 5 = i by omega, List.getElem?_map, List.getElem?_eq_getElem (by rw [h]; exact hi)]; rfl
  have c0 := hc 0 (.int .u8 (uv x.warning)) (by rw [hl_cells]; rfl)
  have c1 := hc 1 (.int .u16 (uv x.temperature)) (by rw [hl_cells]; rfl)
  have c2 := hc 2 (.int .u8 (uv x.spare)) (by rw [hl_cells]; rfl)
  have c3 := hc 3 (.int .u8 (uv x.threshold)) (by rw [hl_cells]; rfl)
  have c4 := hc 4 (.int .u8 (uv x.used)) (by rw [hl_cells]; rfl)
  obtain ⟨C, hC⟩ : ∃ C, (Hl.cells x).toArray = C := ⟨_, rfl⟩
  rw [hC] at hz hk c0 c1 c2 c3 c4 ⊢
  clear hC hc
  refine eql_self (fun w => self_struct (by kernel_rfl) (by kernel_rfl) ?_ w) w
  rw [show Tryd.prog.fieldsOf 132 = _ from by unfold Program.fieldsOf; rw [Tryd.underlying132]]
  simp only [List.forall_mem_cons, List.not_mem_nil, false_implies, implies_true, and_true]
  refine ⟨?_, ?_, ?_, ?_, ?_, ?_⟩
  · exact selfAt_int (d := 9998) (k := .u8) Tryd.underlying5 c0
  · exact selfAt_int (d := 9998) (k := .u16) Tryd.underlying36 c1
  · exact selfAt_int (d := 9998) (k := .u8) Tryd.underlying5 c2
  · exact selfAt_int (d := 9998) (k := .u8) Tryd.underlying5 c3
  · exact selfAt_int (d := 9998) (k := .u8) Tryd.underlying5 c4
  · refine selfAt_arr (d := 9998) (e := 23) (n := 10) Tryd.underlying130 (by kernel_rfl) (show Tryd.prog.cellsOf 130 = 10 by kernel_rfl) (by kernel_rfl) (show Tryd.prog.cellsOf 23 = 1 by kernel_rfl) fun i hi => ?_
    obtain ⟨c, hcc⟩ := hk i hi
    refine selfAt_int (d := 9997) (k := .u64) (a := uv c) Tryd.underlying23 ?_
    rw [Nat.mul_one]
    exact (ext_getH hi (by rw [hz]; decide)).trans hcc
set_option maxHeartbeats 6400000 in
set_option maxRecDepth 20000 in
theorem lawHealths (x : Hl) (v : Value) (l : List (BitVec 8)) (w : World) (hx : x.counters.length = 10) (hv : BytesV w v l) (ht : Lib.TabIs Tryd.prog w "strings.asciiSpace" .u8 Lib.asciiSpaceTab) :
    Calls Tryd.prog 12 #[.agg (Hl.cells x).toArray, v] w fun e w' => e = .returned (.bool true) ∧ Below w.heap.size w w' := by
  obtain ⟨A, hA⟩ : ∃ A, hlB x = A := ⟨_, rfl⟩
  obtain ⟨y, e2, hd⟩ : ∃ y e, decP 512 hlRd hlOkB hlZ l = (y, e) := ⟨_, _, rfl⟩
  have hd2 : decP 512 hlRd (fun l => hlFine l 10) hlZ l = (y, e2) := by
    rw [← hd]; exact (decP_congr 512 hlRd hlRd hlOkB (fun l => hlFine l 10) hlZ l (fun h => ⟨rfl, hl_same l h⟩)).symm
  have hyl := hl_dec_len hd
  have ENC := fun w => EncHl_at x A w hx hA
  have ENR := fun w => rEncHl_at x A w hx hA
  have SX := Lib.hid (hl_size x hx)
  obtain ⟨cx, hcx⟩ : ∃ c, (Hl.cells x).toArray = c := ⟨_, rfl⟩
  rw [hcx] at ENC ENR SX ⊢
  have SY := Lib.hid (hl_size y hyl)
  have ONY := Lib.hid (hl_one y)
  have QY := Lib.hid (hl_eql y hyl)
  obtain ⟨cy, hcy⟩ : ∃ c, (Hl.cells y).toArray = c := ⟨_, rfl⟩
  rw [hcy] at SY ONY QY
  have HCY := Lib.hid hcy
  have HD := Lib.hid hd; have HD2 := Lib.hid hd2
  obtain ⟨W, hW⟩ : ∃ W, W = w.alloc (.cells cx 132) := ⟨_, rfl⟩
  have D0 := Lib.hid (show Below w.heap.size w W by rw [hW]; exact gr_alloc w _)
  have X := Lib.hid (show W.heap[w.heap.size]? = some (.cells cx 132 (0, 0)) by rw [hW]; exact heap_alloc_new w _)
  have V := Lib.hid (hv.below D0.out)
  have TAB := Lib.hid (tab_below ht D0.out)
  have HW := Lib.hid hW
  obtain ⟨av, cv, rfl, h0, h1, h2, h3⟩ := hv
  have hm : (l.length : Int) ≤ 9223372036854775807 := by omega
  clear h0 h1 h2 h3 ht hW hcx hcy hd hd2 hA hx hyl
  have ENCH := Lib.hid ENC; have ENRH := Lib.hid ENR
  clear ENC ENR
  by_cases c1 : 600 < l.length
  · have d1 : decide ((600 : Int) < l.length) = true := decide_eq_true (by omega)
    have d2 : decide (600 < l.length) = true := decide_eq_true c1
    clear c1
    go_enter Tryd.func12, Tryd.ntmps12
    go_upto_region 1 with (fail)
    first
      | rw [← HW.out]
      | (show Code.wp _ _ _ _ (w.alloc (.cells cx 132)); rw [← HW.out])
    go_wp2_with (go_at_call 13; go_loud (refine (known_any _ TAB.out).mono ?_; rintro r w1 ⟨rfl, hw⟩; have D := Lib.hid (gr_tr D0.out hw); clear hw))
    go_ret
    exact ⟨rfl, D.out⟩
  have d1 : decide ((600 : Int) < l.length) = false := decide_eq_false (by omega)
  have d2 : decide (600 < l.length) = false := decide_eq_false c1
  have HL := Lib.hid (show l.length ≤ 600 by omega)
  have h11 : (A == A) = true := beq_self_eq_true A
  have hff : (e2 == e2) = true := beq_self_eq_true e2
  clear c1
  go_enter Tryd.func12, Tryd.ntmps12
  go_upto_region 1 with (fail)
  first
    | rw [← HW.out]
    | (show Code.wp _ _ _ _ (w.alloc (.cells cx 132)); rw [← HW.out])
  go_upto_region 4 with (first
    | (go_at_call 60; go_loud (refine (Decode_Hl l _ _ y e2 V.out (by have := HL.out; omega) HD.out).mono ?_; rw [HCY.out]; rintro r w3 ⟨rfl, hw⟩; have D3 := Lib.hid hw; have X3 := Lib.hid (blk_below X.out hw); clear hw))
    | (refine wpList_store_new rfl 132 (.tmp 5) (.tmp 16) rfl cy 132 _ rfl rfl (by rw [SY.out]; kernel_rfl) (by rw [SY.out]; rfl) ONY.out ?_; intro w4 hh hw; have Y4 := Lib.hid hh; have D4 := Lib.hid (gr_tr D3.out hw); have X4 := Lib.hid (blk_below X3.out hw); clear hh hw))
  go_upto_region 5 with (first
    | (go_at_call 61; go_loud (refine (rDecHl_at l _ _ y e2 (V.out.below D4.out) (by have := HL.out; omega) HD2.out).mono ?_; rw [HCY.out]; rintro r w5 ⟨rfl, hw⟩; have Y5 := Lib.hid (blk_below Y4.out hw); have X5 := Lib.hid (blk_below X4.out hw); have D5 := Lib.hid (gr_tr D4.out hw); clear hw))
    | (refine wpList_store_new rfl 132 (.tmp 7) (.tmp 21) rfl cy 132 _ rfl rfl (by rw [SY.out]; kernel_rfl) (by rw [SY.out]; rfl) ONY.out ?_; intro w6 hh hw; have Z6 := Lib.hid hh; have Y6 := Lib.hid (blk_below Y5.out hw); have X6 := Lib.hid (blk_below X5.out hw); have D6 := Lib.hid (gr_tr D5.out hw); clear hh hw))
  have q := QY.out
  refine wp_region_planW nowhere [(true, 0), (true, 2), (false, 1), (false, 3), (false, 4), (true, 5), (true, 6), (true, 7), (true, 8), (true, 9), (true, 10), (true, 11), (true, 12), (true, 13), (true, 14), (true, 15), (false, 16), (true, 17), (true, 18)] (by kernel_rfl) (by kernel_rfl) (by intro c a d v w h; cases d <;> exact h) ?_
  intro W1 K1 C1
  refine wpS_load_rowH rfl rfl 132 (.tmp 2) rfl w.heap.size rfl 132 cx (0, 0) _ (fun z hz => hz.blkH X6.out) Tryd.underlying132 rfl (by rw [SX.out]; kernel_rfl) ?_
  refine wpS_load_rowH rfl rfl 132 (.tmp 2) rfl w.heap.size rfl 132 cx (0, 0) _ (fun z hz => hz.blkH X6.out) Tryd.underlying132 rfl (by rw [SX.out]; kernel_rfl) ?_
  refine wpS_chain rfl ?_
  go_wp2_with (go_at_call 62; go_loud (refine (ENCH.out _).mono ?_; rintro r w7 ⟨u1, rfl, ho, hw⟩; have U1 := Lib.hid (BytesV.of_own ho); have K2 := Lib.hid (K1.out.below hw); have C2 := Lib.hid (gr_tr C1.out hw); clear ho hw))
  refine ⟨K2.out, ?_⟩
  refine wpS_chain rfl ?_
  go_wp2_with (go_at_call 63; go_loud (refine (ENRH.out _).mono ?_; rintro r w8 ⟨u2, rfl, hu, hw⟩; have U2 := Lib.hid hu; replace U1 := Lib.hid (U1.out.below hw); have K3 := Lib.hid (K2.out.below hw); have C3 := Lib.hid (gr_tr C2.out hw); clear hu hw))
  refine ⟨K3.out, ?_⟩
  refine wpS_chain rfl ?_
  go_wp2_with (go_at_call 17; go_loud (refine (same_at _ _ A A true _ U1.out U2.out h11).mono ?_; rintro r w9 ⟨rfl, rfl⟩))
  refine ⟨K3.out, ?_⟩
  (refine wpS_firm rfl (fun K hK => ?_); simp only [Keep]; go_simp; refine hK _ ?_; clear hK K)
  refine wpS_load_rowH rfl rfl 132 (.tmp 5) rfl w3.heap.size rfl 132 cy (0, 0) _ (fun z hz => hz.blkH Y6.out) Tryd.underlying132 rfl (by rw [SY.out]; kernel_rfl) ?_
  refine wpS_load_rowH rfl rfl 132 (.tmp 7) rfl w5.heap.size rfl 132 cy (0, 0) _ (fun z hz => hz.blkH Z6.out) Tryd.underlying132 rfl (by rw [SY.out]; kernel_rfl) ?_
  repeat (refine wpS_firm rfl (fun K hK => ?_); simp only [Keep]; go_simp; refine hK _ ?_; clear hK K)
  refine wpS_chain rfl ?_
  go_wp2_with (go_at_call 13; go_loud (refine (known_any _ (tab_below TAB.out (gr_tr D6.out C3.out))).mono ?_; rintro r wa ⟨rfl, hw⟩; have K4 := Lib.hid (K3.out.below hw); have C4 := Lib.hid (gr_tr C3.out hw); clear hw))
  refine ⟨K4.out, ?_⟩
  repeat (refine wpS_firm rfl (fun K hK => ?_); simp only [Keep]; go_simp; refine hK _ ?_; clear hK K)
  unfold wpS
  go_wp2
  go_ret
  exact ⟨rfl, gr_tr D0.out (gr_tr D6.out C4.out)⟩
end Go.Proofs.YthnnopjakpjoeaaDoor
