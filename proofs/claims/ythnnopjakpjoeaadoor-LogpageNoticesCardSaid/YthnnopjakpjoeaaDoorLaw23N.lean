/- The law LogpageNotices: the walk. -/
import Derived.Test.YthnnopjakpjoeaaDoorLaw23A
import Derived.Test.YthnnopjakpjoeaaDoorLogO
import Derived.Test.YthnnopjakpjoeaaDoorLogT
import Derived.Test.YthnnopjakpjoeaaDoorSelfEq
namespace Go.Proofs.YthnnopjakpjoeaaDoor
open Go.RowKit Lg
set_option linter.unusedVariables false
set_option linter.unusedSimpArgs false
theorem no_eql (x : No) (w : World) : (binOp .eql 113 (.agg (No.cells x).toArray) (.agg (No.cells x).toArray)).run Tryd.prog w = .ok (.bool true) w := by
  refine eql_self (fun w => self_struct (by kernel_rfl) (by kernel_rfl) ?_ w) w
  rw [show Tryd.prog.fieldsOf 113 = _ from by unfold Program.fieldsOf; rw [Tryd.underlying113]]
  simp only [List.forall_mem_cons, List.not_mem_nil, false_implies, implies_true, and_true]
  refine ⟨?_, ?_, ?_, ?_⟩
  · exact selfAt_int (d := 9998) (k := .u64) (a := uv x.count) Tryd.underlying23 rfl
  · exact selfAt_int (d := 9998) (k := .u8) (a := uv x.kind) Tryd.underlying5 rfl
  · exact selfAt_int (d := 9998) (k := .u8) (a := uv x.avail) Tryd.underlying5 rfl
  · exact selfAt_int (d := 9998) (k := .u32) (a := uv x.nsid) Tryd.underlying24 rfl
set_option maxHeartbeats 6400000 in
set_option maxRecDepth 20000 in
theorem lawNotices (x : No) (v : Value) (l : List (BitVec 8)) (w : World) (hv : BytesV w v l) (ht : Lib.TabIs Tryd.prog w "strings.asciiSpace" .u8 Lib.asciiSpaceTab) :
    Calls Tryd.prog 10 #[.agg (No.cells x).toArray, v] w fun e w' => e = .returned (.bool true) ∧ Below w.heap.size w w' := by
  obtain ⟨e1, he1⟩ : ∃ e, noE x = e := ⟨_, rfl⟩
  obtain ⟨A, hA⟩ : ∃ A, noR x = A := ⟨_, rfl⟩
  obtain ⟨y, e2, hd⟩ : ∃ y e, decP 64 noRd noOkB noZ l = (y, e) := ⟨_, _, rfl⟩
  have hd2 : decP 64 noRd noOkR noZ l = (y, e2) := by
    rw [← hd]; exact (decP_congr 64 noRd noRd noOkB noOkR noZ l (fun h => ⟨rfl, no_same l h⟩)).symm
  have ENC := fun w => EncNo_at x e1 A w he1 hA
  have ENR := fun w => rEncNo_at x e1 A w he1 hA
  obtain ⟨cx, hcx⟩ : ∃ c, (No.cells x).toArray = c := ⟨_, rfl⟩
  rw [hcx] at ENC ENR ⊢
  have SX := Lib.hid (show cx.size = 4 by rw [← hcx]; rfl)
  obtain ⟨cy, hcy⟩ : ∃ c, (No.cells y).toArray = c := ⟨_, rfl⟩
  have HCY := Lib.hid hcy
  have SY := Lib.hid (show cy.size = 4 by rw [← hcy]; rfl)
  have ONY := Lib.hid (show cy.all (·.oneCell') = true by rw [← hcy]; simp [No.cells, Value.oneCell'])
  have QY := Lib.hid (show ∀ w, (binOp .eql 113 (.agg cy) (.agg cy)).run Tryd.prog w = .ok (.bool true) w by rw [← hcy]; exact no_eql y)
  have HD := Lib.hid hd; have HD2 := Lib.hid hd2
  obtain ⟨W, hW⟩ : ∃ W, W = w.alloc (.cells cx 113) := ⟨_, rfl⟩
  have D0 := Lib.hid (show Below w.heap.size w W by rw [hW]; exact gr_alloc w _)
  have X := Lib.hid (show W.heap[w.heap.size]? = some (.cells cx 113 (0, 0)) by rw [hW]; exact heap_alloc_new w _)
  have V := Lib.hid (hv.below D0.out)
  have TAB := Lib.hid (tab_below ht D0.out)
  have HW := Lib.hid hW
  obtain ⟨av, cv, rfl, h0, h1, h2, h3⟩ := hv
  have hm : (l.length : Int) ≤ 9223372036854775807 := by omega
  clear h0 h1 h2 h3 ht hW hcx hcy hd hd2 he1 hA
  have ENCH := Lib.hid ENC; have ENRH := Lib.hid ENR
  clear ENC ENR
  by_cases c1 : 100 < l.length
  · have d1 : decide ((100 : Int) < l.length) = true := decide_eq_true (by omega)
    have d2 : decide (100 < l.length) = true := decide_eq_true c1
    clear c1
    go_enter Tryd.func10, Tryd.ntmps10
    go_upto_region 1 with (fail)
    first
      | rw [← HW.out]
      | (show Code.wp _ _ _ _ (w.alloc (.cells cx 113)); rw [← HW.out])
    go_wp2_with (go_at_call 13; go_loud (refine (known_any _ TAB.out).mono ?_; rintro r w1 ⟨rfl, hw⟩; have D := Lib.hid (gr_tr D0.out hw); clear hw))
    go_ret
    exact ⟨rfl, D.out⟩
  have d1 : decide ((100 : Int) < l.length) = false := decide_eq_false (by omega)
  have d2 : decide (100 < l.length) = false := decide_eq_false c1
  have HL := Lib.hid (show l.length ≤ 100 by omega)
  have h11 : (A == A) = true := beq_self_eq_true A
  have hee : (e1 == e1) = true := beq_self_eq_true e1
  have hff : (e2 == e2) = true := beq_self_eq_true e2
  clear c1
  go_enter Tryd.func10, Tryd.ntmps10
  go_upto_region 1 with (fail)
  first
    | rw [← HW.out]
    | (show Code.wp _ _ _ _ (w.alloc (.cells cx 113)); rw [← HW.out])
  go_upto_region 4 with (first
    | (refine wpList_load_row rfl 113 (.tmp 2) rfl w.heap.size rfl 113 cx (0, 0) _ X.out Tryd.underlying113 rfl (by rw [SX.out]; kernel_rfl) ?_)
    | (go_at_call 51; go_loud (refine (ENCH.out _).mono ?_; rintro r w1 ⟨u1, rfl, ho, hw⟩; have U1 := Lib.hid (BytesV.of_own ho); have D1 := Lib.hid hw; have X1 := Lib.hid (blk_below X.out hw); clear ho hw)))
  go_upto_region 5 with (first
    | (refine wpList_load_row rfl 113 (.tmp 2) rfl w.heap.size rfl 113 cx (0, 0) _ X1.out Tryd.underlying113 rfl (by rw [SX.out]; kernel_rfl) ?_)
    | (go_at_call 52; go_loud (refine (ENRH.out _).mono ?_; rintro r w2 ⟨u2, rfl, hu, hw⟩; have U2 := Lib.hid hu; replace U1 := Lib.hid (U1.out.below hw); have D2 := Lib.hid (gr_tr D1.out hw); clear hu hw)))
  go_upto_region 6 with (first
    | (go_at_call 53; go_loud (refine (Decode_No l _ _ y e2 (V.out.below D2.out) (by have := HL.out; omega) HD.out).mono ?_; rw [HCY.out]; rintro r w3 ⟨rfl, hw⟩; replace U1 := Lib.hid (U1.out.below hw); replace U2 := Lib.hid (U2.out.below hw); have D3 := Lib.hid (gr_tr D2.out hw); clear hw))
    | (refine wpList_store_new rfl 113 (.tmp 9) (.tmp 30) rfl cy 113 _ rfl rfl (by rw [SY.out]; kernel_rfl) (by rw [SY.out]; rfl) ONY.out ?_; intro w4 hh hw; have Y4 := Lib.hid hh; replace U1 := Lib.hid (U1.out.below hw); replace U2 := Lib.hid (U2.out.below hw); have D4 := Lib.hid (gr_tr D3.out hw); clear hh hw))
  go_upto_region 7 with (first
    | (go_at_call 54; go_loud (refine (rDecNo_at l _ _ y e2 (V.out.below D4.out) (by have := HL.out; omega) HD2.out).mono ?_; rw [HCY.out]; rintro r w5 ⟨rfl, hw⟩; replace U1 := Lib.hid (U1.out.below hw); replace U2 := Lib.hid (U2.out.below hw); have Y5 := Lib.hid (blk_below Y4.out hw); have D5 := Lib.hid (gr_tr D4.out hw); clear hw))
    | (refine wpList_store_new rfl 113 (.tmp 11) (.tmp 35) rfl cy 113 _ rfl rfl (by rw [SY.out]; kernel_rfl) (by rw [SY.out]; rfl) ONY.out ?_; intro w6 hh hw; have Z6 := Lib.hid hh; have Y6 := Lib.hid (blk_below Y5.out hw); replace U1 := Lib.hid (U1.out.below hw); replace U2 := Lib.hid (U2.out.below hw); have D6 := Lib.hid (gr_tr D5.out hw); clear hh hw))
  have q := QY.out
  go_wp2_with (first
    | (go_at_call 17; go_loud (refine (same_at _ _ A A true _ U1.out U2.out h11).mono ?_; rintro r w7 ⟨rfl, hw7⟩; subst hw7))
    | (refine wpList_unguard (by rfl) (wpList_load_row rfl 113 (.tmp 9) rfl w3.heap.size rfl 113 cy (0, 0) _ Y6.out Tryd.underlying113 rfl (by rw [SY.out]; kernel_rfl) ?_))
    | (refine wpList_unguard (by rfl) (wpList_load_row rfl 113 (.tmp 11) rfl w5.heap.size rfl 113 cy (0, 0) _ Z6.out Tryd.underlying113 rfl (by rw [SY.out]; kernel_rfl) ?_))
    | (go_at_call 13; go_loud (refine (known_any _ (tab_below TAB.out D6.out)).mono ?_; rintro r w8 ⟨rfl, hw⟩; have D8 := Lib.hid (gr_tr D6.out hw); clear hw)))
  go_ret
  exact ⟨rfl, gr_tr D0.out D8.out⟩
end Go.Proofs.YthnnopjakpjoeaaDoor
