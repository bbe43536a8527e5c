/- The law LogpageSlots: the walk. Printed by genlaw23v.py. -/
import Derived.Test.YthnnopjakpjoeaaGreatDoorLaw23A
import Derived.Test.YthnnopjakpjoeaaGreatDoorLogSM
import Derived.Test.YthnnopjakpjoeaaGreatDoorLogT
import Derived.Test.YthnnopjakpjoeaaGreatDoorSelfEq
import Derived.Test.YthnnopjakpjoeaaGreatDoorGuarded
namespace Go.Proofs.YthnnopjakpjoeaaGreatDoor
open Go.RowKit Lg Go.ChangeShapes Go.WideShapes Go.ChangeAt
set_option linter.unusedVariables false
set_option linter.unusedSimpArgs false
set_option maxRecDepth 100000 in
theorem opens_Slt (w : World) : Opens Tryz.prog w 24 Slt Slt.cells (fun x => x.rv.length = 7) := by
  intro H enc sp held fuel cs x h
  obtain ⟨hl, hfs⟩ := trod_fields Tryz.underlying24 h
  rw [show Tryz.prog.cellsOf 24 = 9 by kernel_rfl] at hl
  obtain ⟨y0, a0, r0⟩ := opens_field hfs 0 _ rfl 0 1 rfl (by kernel_rfl) (opens_i64 Tryz.underlying3)
  obtain ⟨y1, a1, r1⟩ := opens_field hfs 1 _ rfl 1 1 rfl (by kernel_rfl) (opens_i64 Tryz.underlying3)
  obtain ⟨y2, a2, r2⟩ := opens_field hfs 2 _ rfl 2 7 rfl (by kernel_rfl) ((opens_array (k := 1) Tryz.underlying22 (by kernel_rfl) (by kernel_rfl) (fun _ => rfl) (opens_str Tryz.underlying9)))
  have e := (glue a0 (by decide : 0 + 1 = 1) (glue a1 (by decide : 1 + 1 = 2) (glue a2 (by decide : 2 + 7 = 9) (glue_end hl))))
  rw [List.drop_zero] at e
  refine ⟨⟨y0, y1, y2⟩, ?_, r2.1⟩
  rw [e]
  unfold Slt.cells
  rw [List.append_nil, flat_one]; rfl
theorem ext_getS {xs : Array Value} {a n j : Nat} (hj : j < n) (hs : a + n ≤ xs.size) : (xs.extract a (a + n))[j]? = xs[a + j]? := by
  rw [Array.getElem?_extract, if_pos (by omega)]
set_option maxRecDepth 100000 in
theorem slt_eql (x : Slt) (h : x.rv.length = 7) (w : World) : (binOp .eql 24 (.agg (Slt.cells x).toArray) (.agg (Slt.cells x).toArray)).run Tryz.prog w = .ok (.bool true) w := by
  have hz := slt_size x h
  have hk : ∀ i, i < 7 → ∃ s, (Slt.cells x).toArray[2 + i]? = some (.string s) := fun i hi => by
    refine ⟨strOf (x.rv[i]'(by rw [h]; exact hi)), ?_⟩
    rw [List.getElem?_toArray]; unfold Slt.cells
    rw [show 2 + i = (i + 1) + 1 by omega, List.getElem?_cons_succ, List.getElem?_cons_succ, List.getElem?_map, List.getElem?_eq_getElem (by rw [h]; exact hi)]; rfl
  have c0 : (Slt.cells x).toArray[0]? = some (.int .i64 x.act) := rfl
  have c1 : (Slt.cells x).toArray[1]? = some (.int .i64 x.nxt) := rfl
  obtain ⟨C, hC⟩ : ∃ C, (Slt.cells x).toArray = C := ⟨_, rfl⟩
  rw [hC] at hz hk c0 c1 ⊢
  clear hC
  refine eql_self (fun w => self_struct (by kernel_rfl) (by kernel_rfl) ?_ w) w
  rw [show Tryz.prog.fieldsOf 24 = _ from by unfold Program.fieldsOf; rw [Tryz.underlying24]]
  simp only [List.forall_mem_cons, List.not_mem_nil, false_implies, implies_true, and_true]
  refine ⟨?_, ?_, ?_⟩
  · exact selfAt_int (d := 9998) (k := .i64) Tryz.underlying3 c0
  · exact selfAt_int (d := 9998) (k := .i64) Tryz.underlying3 c1
  · refine selfAt_arr (d := 9998) (e := 9) (n := 7) Tryz.underlying22 (by kernel_rfl) (show Tryz.prog.cellsOf 22 = 7 by kernel_rfl) (by kernel_rfl) (show Tryz.prog.cellsOf 9 = 1 by kernel_rfl) fun i hi => ?_
    obtain ⟨s, hs⟩ := hk i hi
    refine selfAt_str (d := 9997) (a := s) Tryz.underlying9 ?_
    rw [Nat.mul_one]
    exact (ext_getS hi (by rw [hz]; decide)).trans hs
theorem slt_dec_two (l : List (BitVec 8)) : decP 512 sltRd sltOkB sltZ l = decP 512 sltRd (fun l => sltFine l 7) sltZ l := decP_congr _ _ _ _ _ _ _ fun h => ⟨rfl, slt_ok l h⟩
set_option maxHeartbeats 6400000 in
set_option maxRecDepth 20000 in
theorem lawSlots (x : Slt) (v : Value) (l : List (BitVec 8)) (w : World) (hx : x.rv.length = 7) (hv : BytesV w v l) (ht : Lib.TabIs Tryz.prog w "strings.asciiSpace" .u8 Lib.asciiSpaceTab) :
    Calls Tryz.prog 3 #[.agg (Slt.cells x).toArray, v] w fun e w' => e = .returned (.bool true) ∧ Below w.heap.size w w' := by
  have HX := Lib.hid hx
  have SV := Lib.hid (fun (k : Nat) (s : List (BitVec 8)) (h : x.rv[k]? = some s) => show (Slt.cells x).toArray[2 + k]? = some (.string (strOf s)) by
    rw [List.getElem?_toArray]; unfold Slt.cells
    rw [show 2 + k = (k + 1) + 1 by omega, List.getElem?_cons_succ, List.getElem?_cons_succ, List.getElem?_map, h]; rfl)
  have SX := Lib.hid (slt_size x hx)
  obtain ⟨e1, he1⟩ : ∃ e, sltE x = e := ⟨_, rfl⟩
  obtain ⟨A, hA⟩ : ∃ A, sltR x = A := ⟨_, rfl⟩
  have HE1 := Lib.hid he1; have HA := Lib.hid hA
  obtain ⟨cx, hcx⟩ : ∃ c, (Slt.cells x).toArray = c := ⟨_, rfl⟩
  have HCX := Lib.hid hcx
  rw [hcx] at SV SX ⊢
  obtain ⟨W, hW⟩ : ∃ W, W = w.alloc (.cells cx 24) := ⟨_, rfl⟩
  have D0 := Lib.hid (show Below w.heap.size w W by rw [hW]; exact gr_alloc w _)
  have X := Lib.hid (show W.heap[w.heap.size]? = some (.cells cx 24 (0, 0)) by rw [hW]; exact heap_alloc_new w _)
  have V := Lib.hid (hv.below D0.out)
  have TAB := Lib.hid (tab_below ht D0.out)
  have HW := Lib.hid hW
  have HVB := Lib.hid (fun w' (h : Below w.heap.size w w') => hv.below h)
  obtain ⟨av, cv, rfl, h0, h1, h2, h3⟩ := hv
  have hm : (l.length : Int) ≤ 9223372036854775807 := by omega
  clear h0 h1 h2 h3 ht hW hcx he1 hA hx
  go_enter Tryz.func3, Tryz.ntmps3
  go_upto_region 1 with (fail)
  first
    | rw [← HW.out]
    | (show Code.wp _ _ _ _ (w.alloc (.cells cx 24)); rw [← HW.out])
  go_upto_region 2 with (fail)
  go_loop [5] (fun i => ∃ k : Nat, k ≤ 7 ∧ i = .int .i64 k ∧ ∀ s ∈ x.rv.take k, s.length ≤ 20) (fun i => 7 - (intOf i).toNat)
  case atStart => exact ⟨0, by omega, rfl, fun s hs => by rw [List.take_zero] at hs; cases hs⟩
  case round =>
    obtain ⟨k, hk, rfl, hsh⟩ := hrel
    have SH := Lib.hid hsh; clear hsh
    by_cases hlt : k < 7
    · obtain ⟨s, hs⟩ : ∃ s, x.rv[k]? = some s := ⟨_, List.getElem?_eq_getElem (by rw [HX.out]; exact hlt)⟩
      have cs : W.cell? ⟨w.heap.size, 2 + k, none⟩ = some (.string (strOf s)) := (cell_of_row _ _ _ _ _ _ X.out).trans (SV.out k s hs)
      have HS := Lib.hid hs
      have hsz : (strOf s).size = s.length := str_size s
      have hk0 : (0 : Int) ≤ (k : Int) := by omega
      have hk1 : (k : Int) < 7 := by omega
      clear hs
      by_cases h20 : 20 < s.length
      · have d1 : decide ((20 : Int) < s.length) = true := decide_eq_true (by omega)
        have d1b : decide (20 < s.length) = true := decide_eq_true h20
        clear h20
        go_wp2_with (go_at_call 5; go_loud (refine (known_any _ TAB.out).mono ?_; rintro r w1 ⟨rfl, hw⟩; have D1 := Lib.hid (gr_tr D0.out hw); clear hw))
        go_ret
        exact ⟨rfl, D1.out⟩
      · have d1 : decide ((20 : Int) < s.length) = false := decide_eq_false (by omega)
        have d1b : decide (20 < s.length) = false := decide_eq_false h20
        have HL20 := Lib.hid (show s.length ≤ 20 by omega)
        clear h20
        go_wp2
        go_round
        case rel => exact ⟨k + 1, by omega, by go_num, fun z hz => by
          obtain ⟨h5, h6⟩ := List.getElem?_eq_some_iff.1 HS.out
          rw [List.take_succ_eq_append_getElem h5] at hz
          rcases List.mem_append.1 hz with h7 | h7
          · exact SH.out z h7
          · rw [List.mem_singleton] at h7
            rw [h7, h6]; exact HL20.out⟩
        case measure => simp [intOf]; omega
    · obtain rfl : k = 7 := by omega
      have hall : ∀ s ∈ x.rv, s.length ≤ 20 := by
        have h := SH.out
        rwa [List.take_of_length_le (by rw [HX.out]; decide)] at h
      have HALL := Lib.hid hall
      clear hall hlt
      by_cases c1 : 600 < l.length
      · have d1 : decide ((600 : Int) < l.length) = true := decide_eq_true (by omega)
        have d2 : decide (600 < l.length) = true := decide_eq_true c1
        clear c1
        go_wp2_with (go_at_call 5; go_loud (refine (known_any _ TAB.out).mono ?_; rintro r w1 ⟨rfl, hw⟩; have D1 := Lib.hid (gr_tr D0.out hw); clear hw))
        go_ret
        exact ⟨rfl, D1.out⟩
      have d1 : decide ((600 : Int) < l.length) = false := decide_eq_false (by omega)
      have d2 : decide (600 < l.length) = false := decide_eq_false c1
      have HL := Lib.hid (show l.length ≤ 600 by omega)
      clear c1
      have ENC := Lib.hid (fun w ht => EncS_at x e1 A w HX.out (fun s hs => by have := HALL.out s hs; omega) ht HE1.out HA.out)
      have ENR := Lib.hid (fun w => rEncSl_at x e1 A w HX.out (fun s hs => by have := HALL.out s hs; omega) HE1.out HA.out)
      rw [HCX.out] at ENC ENR
      obtain ⟨y, e2, hd⟩ : ∃ y e, decP 512 sltRd sltOkB sltZ l = (y, e) := ⟨_, _, rfl⟩
      have HD := Lib.hid hd; have HD2 := Lib.hid ((slt_dec_two l).symm.trans hd)
      have hyl := slt_dec_len hd
      have SY := Lib.hid (slt_size y hyl)
      have ONY := Lib.hid (slt_one y)
      have QY := Lib.hid (slt_eql y hyl)
      obtain ⟨cy, hcy⟩ : ∃ c, (Slt.cells y).toArray = c := ⟨_, rfl⟩
      rw [hcy] at SY ONY QY
      have HCY := Lib.hid hcy
      have h11 : (A == A) = true := beq_self_eq_true A
      have hee : (e1 == e1) = true := beq_self_eq_true e1
      have hff : (e2 == e2) = true := beq_self_eq_true e2
      clear hd hcy hyl
      go_upto_region 10 with (first
        | (refine wpList_load_row rfl 24 (.tmp 2) rfl w.heap.size rfl 24 cx (0, 0) _ X.out Tryz.underlying24 rfl (by rw [SX.out]; kernel_rfl) ?_)
        | (go_at_call 6; go_loud (refine (ENC.out _ TAB.out).mono ?_; rintro r w3 ⟨u3, rfl, hu, hw⟩; have U3 := Lib.hid hu; have X3 := Lib.hid (blk_below X.out hw); have D3 := Lib.hid (gr_tr D0.out hw); have T3 := Lib.hid (tab_below TAB.out hw); clear hu hw))
        | (refine wpList_load_row rfl 24 (.tmp 2) rfl w.heap.size rfl 24 cx (0, 0) _ X3.out Tryz.underlying24 rfl (by rw [SX.out]; kernel_rfl) ?_)
        | (go_at_call 7; go_loud (refine (ENR.out _).mono ?_; rintro r w4 ⟨u4, rfl, hu, hw⟩; have U4 := Lib.hid hu; replace U3 := Lib.hid (U3.out.below hw); have D4 := Lib.hid (gr_tr D3.out hw); have T4 := Lib.hid (tab_below T3.out hw); clear hu hw)))
      have VB := Lib.hid (HVB.out _ D4.out)
      go_upto_region 11 with (first
        | (go_at_call 8; go_loud (refine (Decode_Slt l _ _ y e2 VB.out (by have := HL.out; omega) T4.out HD.out).mono ?_; rw [HCY.out]; rintro r w5 ⟨rfl, hw⟩; have D5 := Lib.hid (gr_tr D4.out hw); have U35 := Lib.hid (U3.out.below hw); have U45 := Lib.hid (U4.out.below hw); have T5 := Lib.hid (tab_below T4.out hw); clear hw))
        | (refine wpList_store_new rfl 24 (.tmp 10) (.tmp 42) rfl cy 24 _ rfl rfl (by rw [SY.out]; kernel_rfl) (by rw [SY.out]; rfl) ONY.out ?_; intro w6 hh hw; have Y6 := Lib.hid hh; have D6 := Lib.hid (gr_tr D5.out hw); have U36 := Lib.hid (U35.out.below hw); have U46 := Lib.hid (U45.out.below hw); have T6 := Lib.hid (tab_below T5.out hw); clear hh hw))
      have VB6 := Lib.hid (HVB.out _ D6.out)
      go_upto_region 12 with (first
        | (go_at_call 9; go_loud (refine (rDecSl_at l _ _ y e2 VB6.out (by have := HL.out; omega) HD2.out).mono ?_; rw [HCY.out]; rintro r w7 ⟨rfl, hw⟩; have Y7 := Lib.hid (blk_below Y6.out hw); have D7 := Lib.hid (gr_tr D6.out hw); have U37 := Lib.hid (U36.out.below hw); have U47 := Lib.hid (U46.out.below hw); have T7 := Lib.hid (tab_below T6.out hw); clear hw))
        | (refine wpList_store_new rfl 24 (.tmp 12) (.tmp 47) rfl cy 24 _ rfl rfl (by rw [SY.out]; kernel_rfl) (by rw [SY.out]; rfl) ONY.out ?_; intro w8 hh hw; have Z8 := Lib.hid hh; have Y8 := Lib.hid (blk_below Y7.out hw); have D8 := Lib.hid (gr_tr D7.out hw); have U38 := Lib.hid (U37.out.below hw); have U48 := Lib.hid (U47.out.below hw); have T8 := Lib.hid (tab_below T7.out hw); clear hh hw))
      have q := QY.out
      go_wp2_with (first
        | (go_at_call 10; go_loud (refine (same_at _ _ A A true _ U38.out U48.out h11).mono ?_; rintro r w9 ⟨rfl, rfl⟩))
        | (refine wpList_unguard (by rfl) (wpList_load_row rfl 24 (.tmp 10) rfl w5.heap.size rfl 24 cy (0, 0) _ Y8.out Tryz.underlying24 rfl (by rw [SY.out]; kernel_rfl) ?_))
        | (refine wpList_unguard (by rfl) (wpList_load_row rfl 24 (.tmp 12) rfl w7.heap.size rfl 24 cy (0, 0) _ Z8.out Tryz.underlying24 rfl (by rw [SY.out]; kernel_rfl) ?_))
        | (go_at_call 5; go_loud (refine (known_any _ T8.out).mono ?_; rintro r wa ⟨rfl, hw⟩; have DA := Lib.hid (gr_tr D8.out hw); clear hw)))
      go_ret
      exact ⟨rfl, DA.out⟩
end Go.Proofs.YthnnopjakpjoeaaGreatDoor
