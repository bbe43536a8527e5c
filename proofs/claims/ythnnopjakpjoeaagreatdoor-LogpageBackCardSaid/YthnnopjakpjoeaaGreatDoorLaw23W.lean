/- The law LogpageBack: the walk. Printed by genlaw23w.py. -/
import Derived.Test.YthnnopjakpjoeaaGreatDoorLaw23A
import Derived.Test.YthnnopjakpjoeaaGreatDoorLogBM
import Derived.Test.YthnnopjakpjoeaaGreatDoorLogT
import Derived.Test.YthnnopjakpjoeaaGreatDoorSelfEq
import Derived.Test.YthnnopjakpjoeaaGreatDoorGuarded
namespace Go.Proofs.YthnnopjakpjoeaaGreatDoor
open Go.RowKit Lg Go.ChangeShapes Go.WideShapes Go.ChangeAt
set_option linter.unusedVariables false
set_option linter.unusedSimpArgs false
theorem wd_oneB (l : List (BitVec 64)) (k : Nat) (x : BitVec 64) (h : l[k]? = some x) : (wd l)[k]? = some (.int .u64 (uv x)) := by
  unfold wd; rw [List.getElem?_map, h]; rfl
theorem SameWordsS (v u : Value) (l : List (BitVec 64)) (w : World) (hv : SliceV w (fun y : BitVec 64 => [Value.int .u64 (uv y)]) v l) (hu : SliceV w (fun y : BitVec 64 => [Value.int .u64 (uv y)]) u l) :
    Calls Tryz.prog 21 #[v, u] w fun e w' => e = .returned (.bool true) ∧ Below w.heap.size w w' := by
  obtain ⟨a, c, rfl, _, hlc, hc, hr⟩ := hv
  obtain ⟨a', c', rfl, _, hlc', hc', hr'⟩ := hu
  rw [flat1] at hr hr'
  have R := Lib.hid (show Row w a (wd l) from hr); have R' := Lib.hid (show Row w a' (wd l) from hr')
  clear hr hr'
  go_enter Tryz.func21, Tryz.ntmps21
  go_wp2
  go_loopw [5] (fun i wr => ∃ k : Nat, k ≤ l.length ∧ i = .int .i64 k ∧ Below w.heap.size w wr) (fun i _ => l.length - (intOf i).toNat)
  case atStart => exact ⟨0, by omega, rfl, Below.refl _ _⟩
  case round =>
    obtain ⟨k, hk, rfl, hb⟩ := hrel
    have B := Lib.hid hb; clear hb
    by_cases hlt : k < l.length
    · have hx := wd_oneB l k l[k] (List.getElem?_eq_getElem hlt)
      obtain ⟨b, o, rfl, hc1⟩ := (R.out.below B.out).at hx
      obtain ⟨b', o', rfl, hc2⟩ := (R'.out.below B.out).at hx
      obtain ⟨x, hxx⟩ : ∃ x, uv l[k] = x := ⟨_, rfl⟩
      rw [hxx] at hc1 hc2
      clear hx hxx
      go_wp2
      go_region
      all_goals (go_wp2; go_roundw)
      case rel => exact ⟨k + 1, by omega, by go_num, B.out.drew⟩
      case measure => simp [intOf]; omega
    · obtain rfl : k = l.length := by omega
      go_wp2
      go_ret
      exact ⟨rfl, B.out⟩
set_option maxRecDepth 100000 in
theorem er_eql (x : Er) (w : World) : (binOp .eql 44 (.agg (Er.cells x).toArray) (.agg (Er.cells x).toArray)).run Tryz.prog w = .ok (.bool true) w := by
  refine eql_self (fun w => self_struct (by kernel_rfl) (by kernel_rfl) ?_ w) w
  rw [show Tryz.prog.fieldsOf 44 = _ from by unfold Program.fieldsOf; rw [Tryz.underlying44]]
  simp only [List.forall_mem_cons, List.not_mem_nil, false_implies, implies_true, and_true]
  refine ⟨?_, ?_, ?_, ?_, ?_, ?_, ?_, ?_⟩
  · exact selfAt_int (d := 9998) (k := .u64) (a := uv x.count) Tryz.underlying38 rfl
  · exact selfAt_int (d := 9998) (k := .u16) (a := uv x.queue) Tryz.underlying39 rfl
  · exact selfAt_int (d := 9998) (k := .u16) (a := uv x.id) Tryz.underlying39 rfl
  · refine selfAt_struct (d := 9998) (m := 4) (by kernel_rfl) (by kernel_rfl) (by kernel_rfl) (by kernel_rfl) ?_
    rw [show Tryz.prog.fieldsOf 41 = _ from by unfold Program.fieldsOf; rw [Tryz.underlying41]]
    simp only [List.forall_mem_cons, List.not_mem_nil, false_implies, implies_true, and_true]
    refine ⟨?_, ?_, ?_, ?_⟩
    · exact selfAt_int (d := 9997) (k := .u8) (a := uv x.st.typ) Tryz.underlying5 rfl
    · exact selfAt_int (d := 9997) (k := .u8) (a := uv x.st.code) Tryz.underlying5 rfl
    · exact selfAt_bool (d := 9997) (a := x.st.more) Tryz.underlying4 rfl
    · exact selfAt_bool (d := 9997) (a := x.st.never) Tryz.underlying4 rfl
  · exact selfAt_int (d := 9998) (k := .u16) (a := uv x.loc) Tryz.underlying39 rfl
  · exact selfAt_int (d := 9998) (k := .u64) (a := uv x.lba) Tryz.underlying38 rfl
  · exact selfAt_int (d := 9998) (k := .u32) (a := uv x.nsid) Tryz.underlying42 rfl
  · exact selfAt_int (d := 9998) (k := .u64) (a := uv x.spec) Tryz.underlying38 rfl
set_option maxRecDepth 100000 in
theorem no_eql (x : No) (w : World) : (binOp .eql 49 (.agg (No.cells x).toArray) (.agg (No.cells x).toArray)).run Tryz.prog w = .ok (.bool true) w := by
  refine eql_self (fun w => self_struct (by kernel_rfl) (by kernel_rfl) ?_ w) w
  rw [show Tryz.prog.fieldsOf 49 = _ from by unfold Program.fieldsOf; rw [Tryz.underlying49]]
  simp only [List.forall_mem_cons, List.not_mem_nil, false_implies, implies_true, and_true]
  refine ⟨?_, ?_, ?_, ?_⟩
  · exact selfAt_int (d := 9998) (k := .u64) (a := uv x.count) Tryz.underlying38 rfl
  · exact selfAt_int (d := 9998) (k := .u8) (a := uv x.kind) Tryz.underlying5 rfl
  · exact selfAt_int (d := 9998) (k := .u8) (a := uv x.avail) Tryz.underlying5 rfl
  · exact selfAt_int (d := 9998) (k := .u32) (a := uv x.nsid) Tryz.underlying42 rfl
theorem ext_getH {xs : Array Value} {a n j : Nat} (hj : j < n) (hs : a + n ≤ xs.size) : (xs.extract a (a + n))[j]? = xs[a + j]? := by
  rw [Array.getElem?_extract, if_pos (by omega)]
set_option maxRecDepth 100000 in
theorem hl_eql (x : Hl) (h : x.counters.length = 10) (w : World) : (binOp .eql 47 (.agg (Hl.cells x).toArray) (.agg (Hl.cells x).toArray)).run Tryz.prog w = .ok (.bool true) w := by
  have hz := hl_size x h
  have hc : ∀ (j : Nat) (v : Value), (Hl.cells x)[j]? = some v → (Hl.cells x).toArray[j]? = some v := fun j v h => by rw [List.getElem?_toArray]; exact h
  have hk : ∀ i, i < 10 → ∃ c : BitVec 64, (Hl.cells x).toArray[5 + i]? = some (.int .u64 (uv c)) := fun i hi => by
    refine ⟨x.counters[i]'(by rw [h]; exact hi), hc _ _ ?_⟩
    rw [hl_cells, List.getElem?_append_right (by simp)]
    show (wd x.counters)[5 + i - 5]? = _
    unfold wd
    rw [show 5 + i - 5 = i by omega, List.getElem?_map, List.getElem?_eq_getElem (by rw [h]; exact hi)]; rfl
  have c0 := hc 0 (.int .u8 (uv x.warning)) (by rw [hl_cells]; rfl)
  have c1 := hc 1 (.int .u16 (uv x.temperature)) (by rw [hl_cells]; rfl)
  have c2 := hc 2 (.int .u8 (uv x.spare)) (by rw [hl_cells]; rfl)
  have c3 := hc 3 (.int .u8 (uv x.threshold)) (by rw [hl_cells]; rfl)
  have c4 := hc 4 (.int .u8 (uv x.used)) (by rw [hl_cells]; rfl)
  obtain ⟨C, hC⟩ : ∃ C, (Hl.cells x).toArray = C := ⟨_, rfl⟩
  rw [hC] at hz hk c0 c1 c2 c3 c4 ⊢
  clear hC hc
  refine eql_self (fun w => self_struct (by kernel_rfl) (by kernel_rfl) ?_ w) w
  rw [show Tryz.prog.fieldsOf 47 = _ from by unfold Program.fieldsOf; rw [Tryz.underlying47]]
  simp only [List.forall_mem_cons, List.not_mem_nil, false_implies, implies_true, and_true]
  refine ⟨?_, ?_, ?_, ?_, ?_, ?_⟩
  · exact selfAt_int (d := 9998) (k := .u8) Tryz.underlying5 c0
  · exact selfAt_int (d := 9998) (k := .u16) Tryz.underlying39 c1
  · exact selfAt_int (d := 9998) (k := .u8) Tryz.underlying5 c2
  · exact selfAt_int (d := 9998) (k := .u8) Tryz.underlying5 c3
  · exact selfAt_int (d := 9998) (k := .u8) Tryz.underlying5 c4
  · refine selfAt_arr (d := 9998) (e := 38) (n := 10) Tryz.underlying45 (by kernel_rfl) (show Tryz.prog.cellsOf 45 = 10 by kernel_rfl) (by kernel_rfl) (show Tryz.prog.cellsOf 38 = 1 by kernel_rfl) fun i hi => ?_
    obtain ⟨c, hcc⟩ := hk i hi
    refine selfAt_int (d := 9997) (k := .u64) (a := uv c) Tryz.underlying38 ?_
    rw [Nat.mul_one]
    exact (ext_getH hi (by rw [hz]; decide)).trans hcc
set_option maxRecDepth 100000 in
theorem opens_Slt (w : World) : Opens Tryz.prog w 24 Slt Slt.cells (fun x => x.rv.length = 7 ∧ ∀ s ∈ x.rv, s.length ≤ 9223372036854775807) := by
  intro H enc sp held fuel cs x h
  obtain ⟨hl, hfs⟩ := trod_fields Tryz.underlying24 h
  rw [show Tryz.prog.cellsOf 24 = 9 by kernel_rfl] at hl
  obtain ⟨y0, a0, r0⟩ := opens_field hfs 0 _ rfl 0 1 rfl (by kernel_rfl) (opens_i64 Tryz.underlying3)
  obtain ⟨y1, a1, r1⟩ := opens_field hfs 1 _ rfl 1 1 rfl (by kernel_rfl) (opens_i64 Tryz.underlying3)
  obtain ⟨y2, a2, r2⟩ := opens_field hfs 2 _ rfl 2 7 rfl (by kernel_rfl) ((opens_array (k := 1) Tryz.underlying22 (by kernel_rfl) (by kernel_rfl) (fun _ => rfl) (opens_str Tryz.underlying9)))
  have e := (glue a0 (by decide : 0 + 1 = 1) (glue a1 (by decide : 1 + 1 = 2) (glue a2 (by decide : 2 + 7 = 9) (glue_end hl))))
  rw [List.drop_zero] at e
  refine ⟨⟨y0, y1, y2⟩, ?_, r2⟩
  rw [e]
  unfold Slt.cells
  rw [List.append_nil, flat_one]; rfl
theorem ext_getS {xs : Array Value} {a n j : Nat} (hj : j < n) (hs : a + n ≤ xs.size) : (xs.extract a (a + n))[j]? = xs[a + j]? := by
  rw [Array.getElem?_extract, if_pos (by omega)]
set_option maxRecDepth 100000 in
theorem slt_eql (x : Slt) (h : x.rv.length = 7) (w : World) : (binOp .eql 24 (.agg (Slt.cells x).toArray) (.agg (Slt.cells x).toArray)).run Tryz.prog w = .ok (.bool true) w := by
  have hz := slt_size x h
  have hk : ∀ i, i < 7 → ∃ s, (Slt.cells x).toArray[2 + i]? = some (.string s) := fun i hi => by
    refine ⟨strOf (x.rv[i]'(by rw [h]; exact hi)), ?_⟩
    rw [List.getElem?_toArray]; unfold Slt.cells
    rw [show 2 + i = (i + 1) + 1 by omega, List.getElem?_cons_succ, List.getElem?_cons_succ, List.getElem?_map, List.getElem?_eq_getElem (by rw [h]; exact hi)]; rfl
  have c0 : (Slt.cells x).toArray[0]? = some (.int .i64 x.act) := rfl
  have c1 : (Slt.cells x).toArray[1]? = some (.int .i64 x.nxt) := rfl
  obtain ⟨C, hC⟩ : ∃ C, (Slt.cells x).toArray = C := ⟨_, rfl⟩
  rw [hC] at hz hk c0 c1 ⊢
  clear hC
  refine eql_self (fun w => self_struct (by kernel_rfl) (by kernel_rfl) ?_ w) w
  rw [show Tryz.prog.fieldsOf 24 = _ from by unfold Program.fieldsOf; rw [Tryz.underlying24]]
  simp only [List.forall_mem_cons, List.not_mem_nil, false_implies, implies_true, and_true]
  refine ⟨?_, ?_, ?_⟩
  · exact selfAt_int (d := 9998) (k := .i64) Tryz.underlying3 c0
  · exact selfAt_int (d := 9998) (k := .i64) Tryz.underlying3 c1
  · refine selfAt_arr (d := 9998) (e := 9) (n := 7) Tryz.underlying22 (by kernel_rfl) (show Tryz.prog.cellsOf 22 = 7 by kernel_rfl) (by kernel_rfl) (show Tryz.prog.cellsOf 9 = 1 by kernel_rfl) fun i hi => ?_
    obtain ⟨s, hs⟩ := hk i hi
    refine selfAt_str (d := 9997) (a := s) Tryz.underlying9 ?_
    rw [Nat.mul_one]
    exact (ext_getS hi (by rw [hz]; decide)).trans hs
theorem neq_of_eql {P : Program} {t : TypeId} {xs : Array Value} {w : World} (h : (binOp .eql t (.agg xs) (.agg xs)).run P w = .ok (.bool true) w) : (binOp .neq t (.agg xs) (.agg xs)).run P w = .ok (.bool false) w := by
  have e1 : binOp .eql t (.agg xs) (.agg xs) = (do pure (.bool (← Op.equal t (.agg xs) (.agg xs)))) := rfl
  have e2 : binOp .neq t (.agg xs) (.agg xs) = (do pure (.bool (!(← Op.equal t (.agg xs) (.agg xs))))) := rfl
  rw [e1] at h
  rw [e2]
  simp only [Sem.run_bind, Sem.run_pure] at h ⊢
  cases hr : (Op.equal t (.agg xs) (.agg xs)).run P w with
  | ok b w' =>
    rw [hr] at h
    simp only [Result.andThen_ok] at h ⊢
    injection h with h1 h2
    injection h1 with h1
    subst h1; subst h2; rfl
  | _ => rw [hr] at h; cases h
set_option maxHeartbeats 25600000 in
set_option maxRecDepth 20000 in
theorem lawBack (xE : Er) (xH : Hl) (xS : Slt) (xN : No) (vl : Value) (l : List (BitVec 32)) (vz : Value) (z : List (BitVec 64)) (w : World) (hH : xH.counters.length = 10) (hS : xS.rv.length = 7) (hSr : ∀ s ∈ xS.rv, s.length ≤ 9223372036854775807) (hl : SliceV w (fun y : BitVec 32 => [Value.int .u32 (uv y)]) vl l) (hz : SliceV w (fun y : BitVec 64 => [Value.int .u64 (uv y)]) vz z) (ht : Lib.TabIs Tryz.prog w "strings.asciiSpace" .u8 Lib.asciiSpaceTab) :
    Calls Tryz.prog 4 #[.agg (Er.cells xE).toArray, .agg (Hl.cells xH).toArray, .agg (Slt.cells xS).toArray, .agg (No.cells xN).toArray, vl, vz] w fun e w' => e = .returned (.bool true) ∧ Below w.heap.size w w' := by
  have HH := Lib.hid hH; have HS := Lib.hid hS; have HSR := Lib.hid hSr
  have ZE := Lib.hid (show (Er.cells xE).toArray.size = 11 from rfl)
  have OE := Lib.hid (show (Er.cells xE).toArray.all (·.oneCell') = true by simp [Er.cells, St.cells, Value.oneCell'])
  have QE := Lib.hid (fun w => neq_of_eql (er_eql xE w))
  have ZH := Lib.hid (hl_size xH hH)
  have OH := Lib.hid (hl_one xH)
  have QH := Lib.hid (fun w => neq_of_eql (hl_eql xH hH w))
  have ZS := Lib.hid (slt_size xS hS)
  have OS := Lib.hid (slt_one xS)
  have QS := Lib.hid (fun w => neq_of_eql (slt_eql xS hS w))
  have ZN := Lib.hid (show (No.cells xN).toArray.size = 4 from rfl)
  have ON := Lib.hid (show (No.cells xN).toArray.all (·.oneCell') = true by simp [No.cells, Value.oneCell'])
  have QN := Lib.hid (fun w => neq_of_eql (no_eql xN w))
  obtain ⟨cE, hcE⟩ : ∃ c, (Er.cells xE).toArray = c := ⟨_, rfl⟩
  obtain ⟨cH, hcH⟩ : ∃ c, (Hl.cells xH).toArray = c := ⟨_, rfl⟩
  obtain ⟨cS, hcS⟩ : ∃ c, (Slt.cells xS).toArray = c := ⟨_, rfl⟩
  obtain ⟨cN, hcN⟩ : ∃ c, (No.cells xN).toArray = c := ⟨_, rfl⟩
  have HCE := Lib.hid hcE; have HCH := Lib.hid hcH; have HCS := Lib.hid hcS; have HCN := Lib.hid hcN
  rw [hcE] at ZE OE QE; rw [hcH] at ZH OH QH; rw [hcS] at ZS OS QS; rw [hcN] at ZN ON QN
  rw [hcE, hcH, hcS, hcN]
  obtain ⟨W, hW⟩ : ∃ W, W = (((w.alloc (.cells cE 44)).alloc (.cells cH 47)).alloc (.cells cS 24)).alloc (.cells cN 49) := ⟨_, rfl⟩
  have DW : Below w.heap.size w W := by rw [hW]; exact gr_tr (gr_tr (gr_tr (gr_alloc w _) (gr_alloc _ _)) (gr_alloc _ _)) (gr_alloc _ _)
  have D := Lib.hid DW
  have XE := Lib.hid (show W.heap[w.heap.size]? = some (.cells cE 44 (0, 0)) by rw [hW]; exact blk_below (blk_below (blk_below (heap_alloc_new w _) (gr_alloc _ _)) (gr_alloc _ _)) (gr_alloc _ _))
  have XH := Lib.hid (show W.heap[w.heap.size + 1]? = some (.cells cH 47 (0, 0)) by
    rw [hW]
    have h := heap_alloc_new (w.alloc (.cells cE 44)) (.cells cH 47)
    rw [World.size_alloc] at h
    exact blk_below (blk_below h (gr_alloc _ _)) (gr_alloc _ _))
  have XS := Lib.hid (show W.heap[w.heap.size + 1 + 1]? = some (.cells cS 24 (0, 0)) by
    rw [hW]
    have h := heap_alloc_new ((w.alloc (.cells cE 44)).alloc (.cells cH 47)) (.cells cS 24)
    rw [World.size_alloc, World.size_alloc] at h
    exact blk_below h (gr_alloc _ _))
  have XN := Lib.hid (show W.heap[w.heap.size + 1 + 1 + 1]? = some (.cells cN 49 (0, 0)) by
    rw [hW]
    have h := heap_alloc_new (((w.alloc (.cells cE 44)).alloc (.cells cH 47)).alloc (.cells cS 24)) (.cells cN 49)
    rw [World.size_alloc, World.size_alloc, World.size_alloc] at h
    exact h)
  have VL := Lib.hid (hl.below DW)
  have VZ := Lib.hid (hz.below DW)
  have TAB := Lib.hid (tab_below ht DW)
  have HW := Lib.hid hW
  obtain ⟨al, cl, rfl, k0, k1, k2, k3⟩ := hl
  obtain ⟨az, cz, rfl, j0, j1, j2, j3⟩ := hz
  have hl9 : (l.length : Int) ≤ 9223372036854775807 := by omega
  have hz9 : (z.length : Int) ≤ 9223372036854775807 := by omega
  clear k0 k1 k2 k3 j0 j1 j2 j3 ht hW hcE hcH hcS hcN hH hS hSr DW
  by_cases cl1 : 1024 < l.length
  · have d1 : decide ((1024 : Int) < l.length) = true := decide_eq_true (by omega)
    have d1b : decide (1024 < l.length) = true := decide_eq_true cl1
    clear cl1
    go_enter Tryz.func4, Tryz.ntmps4
    go_upto_region 1 with (fail)
    rw [← HW.out]
    go_wp2_with (go_at_call 5; go_loud (refine (known_any _ TAB.out).mono ?_; rintro r w1 ⟨rfl, hw⟩; have D1 := Lib.hid (gr_tr D.out hw); clear hw))
    go_ret
    exact ⟨rfl, D1.out⟩
  have d1 : decide ((1024 : Int) < l.length) = false := decide_eq_false (by omega)
  have d1b : decide (1024 < l.length) = false := decide_eq_false cl1
  by_cases cz1 : 511 < z.length
  · have d2 : decide ((511 : Int) < z.length) = true := decide_eq_true (by omega)
    have d2b : decide (511 < z.length) = true := decide_eq_true cz1
    clear cl1 cz1
    go_enter Tryz.func4, Tryz.ntmps4
    go_upto_region 1 with (fail)
    rw [← HW.out]
    go_wp2_with (go_at_call 5; go_loud (refine (known_any _ TAB.out).mono ?_; rintro r w1 ⟨rfl, hw⟩; have D1 := Lib.hid (gr_tr D.out hw); clear hw))
    go_ret
    exact ⟨rfl, D1.out⟩
  have d2 : decide ((511 : Int) < z.length) = false := decide_eq_false (by omega)
  have d2b : decide (511 < z.length) = false := decide_eq_false cz1
  have HLL := Lib.hid (show l.length ≤ 1024 by omega)
  have HZL := Lib.hid (show z.length ≤ 511 by omega)
  clear cl1 cz1
  go_enter Tryz.func4, Tryz.ntmps4
  go_upto_region 1 with (fail)
  rw [← HW.out]
  go_upto_region 3 with (fail)
  clear d1 d1b d2 d2b

  -- E
  obtain ⟨okE, hokE⟩ : ∃ b, erOk xE = b := ⟨_, rfl⟩
  have OKE := Lib.hid hokE
  obtain ⟨eE, heE⟩ : ∃ e, erE xE = e := ⟨_, rfl⟩
  obtain ⟨BE, hBE⟩ : ∃ B, erR xE = B := ⟨_, rfl⟩
  have ENE := Lib.hid (fun w (ht : Lib.TabIs Tryz.prog w "strings.asciiSpace" .u8 Lib.asciiSpaceTab) => EncEr_at xE eE BE w heE hBE)
  have EEE := Lib.hid (show (if okE then (0 : Int) else 2) = eE by rw [← hokE]; exact heE)
  have EBE := Lib.hid (show (if okE then erB xE else []) = BE by rw [← hokE]; exact hBE)
  have RTE := Lib.hid (fun (h : erOk xE = true) => er_rt xE h erOkB erZ (fun l => rfl))
  rw [HCE.out] at ENE
  clear hokE heE hBE
  go_upto_region 4 with (first
    | (refine wpList_load_row rfl 44 (.tmp 6) rfl w.heap.size rfl 44 cE (0, 0) _ XE.out Tryz.underlying44 rfl (by rw [ZE.out]; kernel_rfl) ?_)
    | (go_at_call 11; go_loud (refine (ENE.out _ TAB.out).mono ?_; rintro r wE ⟨uE, rfl, hu, hw⟩; have UE := Lib.hid (BytesV.of_own hu); replace D := Lib.hid (gr_tr D.out hw); replace XE := Lib.hid (blk_below XE.out hw); replace XH := Lib.hid (blk_below XH.out hw); replace XS := Lib.hid (blk_below XS.out hw); replace XN := Lib.hid (blk_below XN.out hw); replace TAB := Lib.hid (tab_below TAB.out hw); replace VL := Lib.hid (VL.out.below hw); replace VZ := Lib.hid (VZ.out.below hw); clear hu hw)))
  go_upto_if 51 with (fail)
  go_cut [] (fun wx => Below wE.heap.size wE wx)
  case first =>
    cases okE
    · have h := EEE.out
      have h2 : eE = 2 := h.symm
      subst h2
      go_wp2
      go_meet
      exact Below.refl _ _
    · have h2 : eE = 0 := EEE.out.symm
      have h3 : erB xE = BE := EBE.out
      have rt := RTE.out OKE.out
      subst h2
      rw [h3] at rt
      have RT2 := Lib.hid rt
      have q := QE.out
      clear rt h3
      go_upto_region 6 with (first
        | (go_at_call 12; go_loud (refine (Decode_Er BE _ _ xE 0 UE.out (by have h := RT2.out; have := decP_le h; omega) RT2.out).mono ?_; rw [HCE.out]; rintro r wd ⟨rfl, hw⟩; have DD := Lib.hid hw; have XX := Lib.hid (blk_below XE.out hw); clear hw))
        | (refine wpList_store_new rfl 44 (.tmp 15) (.tmp 55) rfl cE 44 _ rfl rfl (by rw [ZE.out]; kernel_rfl) (by rw [ZE.out]; rfl) OE.out ?_; intro we hh hw; have YY := Lib.hid hh; have DD2 := Lib.hid (gr_tr DD.out hw); have XX2 := Lib.hid (blk_below XX.out hw); clear hh hw))
      go_wp2_with (first
        | (refine wpList_unguard (by rfl) (wpList_load_row rfl 44 (.tmp 15) rfl wd.heap.size rfl 44 cE (0, 0) _ YY.out Tryz.underlying44 rfl (by rw [ZE.out]; kernel_rfl) ?_))
        | (refine wpList_unguard (by rfl) (wpList_load_row rfl 44 (.tmp 6) rfl w.heap.size rfl 44 cE (0, 0) _ XX2.out Tryz.underlying44 rfl (by rw [ZE.out]; kernel_rfl) ?_)))
      go_meet
      exact DD2.out
  case rest =>
  have hw := hcut
  obtain ⟨vE, hvE⟩ : ∃ x, x = wc := ⟨_, rfl⟩
  subst hvE
  replace D := Lib.hid (gr_tr D.out hw); replace XE := Lib.hid (blk_below XE.out hw); replace XH := Lib.hid (blk_below XH.out hw); replace XS := Lib.hid (blk_below XS.out hw); replace XN := Lib.hid (blk_below XN.out hw); replace TAB := Lib.hid (tab_below TAB.out hw); replace VL := Lib.hid (VL.out.below hw); replace VZ := Lib.hid (VZ.out.below hw)
  clear hw hcut

  obtain ⟨BH, hBH⟩ : ∃ B, hlB xH = B := ⟨_, rfl⟩
  have ENH := Lib.hid (fun w => EncHl_at xH BH w HH.out hBH)
  have RTH := Lib.hid (show decP 512 hlRd hlOkB hlZ BH = (xH, 0) by rw [← hBH]; exact hl_rt xH HH.out hlOkB hlZ (fun l => rfl))
  rw [HCH.out] at ENH
  have qH := QH.out
  clear hBH
  go_upto_region 9 with (first
    | (refine wpList_load_row rfl 47 (.tmp 7) rfl (w.heap.size + 1) rfl 47 cH (0, 0) _ XH.out Tryz.underlying47 rfl (by rw [ZH.out]; kernel_rfl) ?_)
    | (go_at_call 14; go_loud (refine (ENH.out _).mono ?_; rintro r wH ⟨uH, rfl, hu, hw⟩; have UH := Lib.hid (BytesV.of_own hu); replace D := Lib.hid (gr_tr D.out hw); replace XE := Lib.hid (blk_below XE.out hw); replace XH := Lib.hid (blk_below XH.out hw); replace XS := Lib.hid (blk_below XS.out hw); replace XN := Lib.hid (blk_below XN.out hw); replace TAB := Lib.hid (tab_below TAB.out hw); replace VL := Lib.hid (VL.out.below hw); replace VZ := Lib.hid (VZ.out.below hw); clear hu hw))
    | (go_at_call 13; go_loud (refine (Decode_Hl BH _ _ xH 0 UH.out (by have h := decP_le RTH.out; omega) RTH.out).mono ?_; rw [HCH.out]; rintro r wI ⟨rfl, hw⟩; replace D := Lib.hid (gr_tr D.out hw); replace XE := Lib.hid (blk_below XE.out hw); replace XH := Lib.hid (blk_below XH.out hw); replace XS := Lib.hid (blk_below XS.out hw); replace XN := Lib.hid (blk_below XN.out hw); replace TAB := Lib.hid (tab_below TAB.out hw); replace VL := Lib.hid (VL.out.below hw); replace VZ := Lib.hid (VZ.out.below hw); clear hw))
    | (refine wpList_store_new rfl 47 (.tmp 17) (.tmp 68) rfl cH 47 _ rfl rfl (by rw [ZH.out]; kernel_rfl) (by rw [ZH.out]; rfl) OH.out ?_; intro wJ hh hw; have YH := Lib.hid hh; replace D := Lib.hid (gr_tr D.out hw); replace XE := Lib.hid (blk_below XE.out hw); replace XH := Lib.hid (blk_below XH.out hw); replace XS := Lib.hid (blk_below XS.out hw); replace XN := Lib.hid (blk_below XN.out hw); replace TAB := Lib.hid (tab_below TAB.out hw); replace VL := Lib.hid (VL.out.below hw); replace VZ := Lib.hid (VZ.out.below hw); clear hh hw))
  go_upto_region 11 with (first
    | (refine wpList_unguard (by rfl) (wpList_load_row rfl 47 (.tmp 17) rfl wI.heap.size rfl 47 cH (0, 0) _ YH.out Tryz.underlying47 rfl (by rw [ZH.out]; kernel_rfl) ?_))
    | (refine wpList_unguard (by rfl) (wpList_load_row rfl 47 (.tmp 7) rfl (w.heap.size + 1) rfl 47 cH (0, 0) _ XH.out Tryz.underlying47 rfl (by rw [ZH.out]; kernel_rfl) ?_)))
  clear qH

  -- S
  obtain ⟨okS, hokS⟩ : ∃ b, sltOk xS = b := ⟨_, rfl⟩
  have OKS := Lib.hid hokS
  obtain ⟨eS, heS⟩ : ∃ e, sltE xS = e := ⟨_, rfl⟩
  obtain ⟨BS, hBS⟩ : ∃ B, sltR xS = B := ⟨_, rfl⟩
  have ENS := Lib.hid (fun w (ht : Lib.TabIs Tryz.prog w "strings.asciiSpace" .u8 Lib.asciiSpaceTab) => EncS_at xS eS BS w HS.out HSR.out ht heS hBS)
  have EES := Lib.hid (show (if okS then (0 : Int) else 2) = eS by rw [← hokS]; exact heS)
  have EBS := Lib.hid (show (if okS then sltB xS else []) = BS by rw [← hokS]; exact hBS)
  have RTS := Lib.hid (fun (h : sltOk xS = true) => slt_rt xS HS.out h sltZ)
  rw [HCS.out] at ENS
  clear hokS heS hBS
  go_upto_region 12 with (first
    | (refine wpList_load_row rfl 24 (.tmp 8) rfl (w.heap.size + 1 + 1) rfl 24 cS (0, 0) _ XS.out Tryz.underlying24 rfl (by rw [ZS.out]; kernel_rfl) ?_)
    | (go_at_call 6; go_loud (refine (ENS.out _ TAB.out).mono ?_; rintro r wS ⟨uS, rfl, hu, hw⟩; have US := Lib.hid hu; replace D := Lib.hid (gr_tr D.out hw); replace XE := Lib.hid (blk_below XE.out hw); replace XH := Lib.hid (blk_below XH.out hw); replace XS := Lib.hid (blk_below XS.out hw); replace XN := Lib.hid (blk_below XN.out hw); replace TAB := Lib.hid (tab_below TAB.out hw); replace VL := Lib.hid (VL.out.below hw); replace VZ := Lib.hid (VZ.out.below hw); clear hu hw)))
  go_upto_if 83 with (fail)
  go_cut [] (fun wx => Below wS.heap.size wS wx)
  case first =>
    cases okS
    · have h := EES.out
      have h2 : eS = 2 := h.symm
      subst h2
      go_wp2
      go_meet
      exact Below.refl _ _
    · have h2 : eS = 0 := EES.out.symm
      have h3 : sltB xS = BS := EBS.out
      have rt := RTS.out OKS.out
      subst h2
      rw [h3] at rt
      have RT2 := Lib.hid rt
      have q := QS.out
      clear rt h3
      go_upto_region 14 with (first
        | (go_at_call 8; go_loud (refine (Decode_Slt BS _ _ xS 0 US.out (by have h := RT2.out; have := decP_le h; omega) TAB.out RT2.out).mono ?_; rw [HCS.out]; rintro r wd ⟨rfl, hw⟩; have DD := Lib.hid hw; have XX := Lib.hid (blk_below XS.out hw); clear hw))
        | (refine wpList_store_new rfl 24 (.tmp 21) (.tmp 87) rfl cS 24 _ rfl rfl (by rw [ZS.out]; kernel_rfl) (by rw [ZS.out]; rfl) OS.out ?_; intro we hh hw; have YY := Lib.hid hh; have DD2 := Lib.hid (gr_tr DD.out hw); have XX2 := Lib.hid (blk_below XX.out hw); clear hh hw))
      go_wp2_with (first
        | (refine wpList_unguard (by rfl) (wpList_load_row rfl 24 (.tmp 21) rfl wd.heap.size rfl 24 cS (0, 0) _ YY.out Tryz.underlying24 rfl (by rw [ZS.out]; kernel_rfl) ?_))
        | (refine wpList_unguard (by rfl) (wpList_load_row rfl 24 (.tmp 8) rfl (w.heap.size + 1 + 1) rfl 24 cS (0, 0) _ XX2.out Tryz.underlying24 rfl (by rw [ZS.out]; kernel_rfl) ?_)))
      go_meet
      exact DD2.out
  case rest =>
  have hw := hcut
  obtain ⟨vS, hvS⟩ : ∃ x, x = wc := ⟨_, rfl⟩
  subst hvS
  replace D := Lib.hid (gr_tr D.out hw); replace XE := Lib.hid (blk_below XE.out hw); replace XH := Lib.hid (blk_below XH.out hw); replace XS := Lib.hid (blk_below XS.out hw); replace XN := Lib.hid (blk_below XN.out hw); replace TAB := Lib.hid (tab_below TAB.out hw); replace VL := Lib.hid (VL.out.below hw); replace VZ := Lib.hid (VZ.out.below hw)
  clear hw hcut

  -- N
  obtain ⟨okN, hokN⟩ : ∃ b, noOk xN = b := ⟨_, rfl⟩
  have OKN := Lib.hid hokN
  obtain ⟨eN, heN⟩ : ∃ e, noE xN = e := ⟨_, rfl⟩
  obtain ⟨BN, hBN⟩ : ∃ B, noR xN = B := ⟨_, rfl⟩
  have ENN := Lib.hid (fun w (ht : Lib.TabIs Tryz.prog w "strings.asciiSpace" .u8 Lib.asciiSpaceTab) => EncNo_at xN eN BN w heN hBN)
  have EEN := Lib.hid (show (if okN then (0 : Int) else 2) = eN by rw [← hokN]; exact heN)
  have EBN := Lib.hid (show (if okN then noB xN else []) = BN by rw [← hokN]; exact hBN)
  have RTN := Lib.hid (fun (h : noOk xN = true) => no_rt xN h noOkB noZ (fun l => rfl))
  rw [HCN.out] at ENN
  clear hokN heN hBN
  go_upto_region 17 with (first
    | (refine wpList_load_row rfl 49 (.tmp 9) rfl (w.heap.size + 1 + 1 + 1) rfl 49 cN (0, 0) _ XN.out Tryz.underlying49 rfl (by rw [ZN.out]; kernel_rfl) ?_)
    | (go_at_call 15; go_loud (refine (ENN.out _ TAB.out).mono ?_; rintro r wN ⟨uN, rfl, hu, hw⟩; have UN := Lib.hid (BytesV.of_own hu); replace D := Lib.hid (gr_tr D.out hw); replace XE := Lib.hid (blk_below XE.out hw); replace XH := Lib.hid (blk_below XH.out hw); replace XS := Lib.hid (blk_below XS.out hw); replace XN := Lib.hid (blk_below XN.out hw); replace TAB := Lib.hid (tab_below TAB.out hw); replace VL := Lib.hid (VL.out.below hw); replace VZ := Lib.hid (VZ.out.below hw); clear hu hw)))
  go_upto_if 102 with (fail)
  go_cut [] (fun wx => Below wN.heap.size wN wx)
  case first =>
    cases okN
    · have h := EEN.out
      have h2 : eN = 2 := h.symm
      subst h2
      go_wp2
      go_meet
      exact Below.refl _ _
    · have h2 : eN = 0 := EEN.out.symm
      have h3 : noB xN = BN := EBN.out
      have rt := RTN.out OKN.out
      subst h2
      rw [h3] at rt
      have RT2 := Lib.hid rt
      have q := QN.out
      clear rt h3
      go_upto_region 19 with (first
        | (go_at_call 16; go_loud (refine (Decode_No BN _ _ xN 0 UN.out (by have h := RT2.out; have := decP_le h; omega) RT2.out).mono ?_; rw [HCN.out]; rintro r wd ⟨rfl, hw⟩; have DD := Lib.hid hw; have XX := Lib.hid (blk_below XN.out hw); clear hw))
        | (refine wpList_store_new rfl 49 (.tmp 25) (.tmp 106) rfl cN 49 _ rfl rfl (by rw [ZN.out]; kernel_rfl) (by rw [ZN.out]; rfl) ON.out ?_; intro we hh hw; have YY := Lib.hid hh; have DD2 := Lib.hid (gr_tr DD.out hw); have XX2 := Lib.hid (blk_below XX.out hw); clear hh hw))
      go_wp2_with (first
        | (refine wpList_unguard (by rfl) (wpList_load_row rfl 49 (.tmp 25) rfl wd.heap.size rfl 49 cN (0, 0) _ YY.out Tryz.underlying49 rfl (by rw [ZN.out]; kernel_rfl) ?_))
        | (refine wpList_unguard (by rfl) (wpList_load_row rfl 49 (.tmp 9) rfl (w.heap.size + 1 + 1 + 1) rfl 49 cN (0, 0) _ XX2.out Tryz.underlying49 rfl (by rw [ZN.out]; kernel_rfl) ?_)))
      go_meet
      exact DD2.out
  case rest =>
  have hw := hcut
  obtain ⟨vN, hvN⟩ : ∃ x, x = wc := ⟨_, rfl⟩
  subst hvN
  replace D := Lib.hid (gr_tr D.out hw); replace XE := Lib.hid (blk_below XE.out hw); replace XH := Lib.hid (blk_below XH.out hw); replace XS := Lib.hid (blk_below XS.out hw); replace XN := Lib.hid (blk_below XN.out hw); replace TAB := Lib.hid (tab_below TAB.out hw); replace VL := Lib.hid (VL.out.below hw); replace VZ := Lib.hid (VZ.out.below hw)
  clear hw hcut

  obtain ⟨okL, hokL⟩ : ∃ b, nsOkL l = b := ⟨_, rfl⟩
  have OKL := Lib.hid hokL
  obtain ⟨eL, heL⟩ : ∃ e, nsEL l = e := ⟨_, rfl⟩
  obtain ⟨BL, hBL⟩ : ∃ B, nsRL l = B := ⟨_, rfl⟩
  have EEL := Lib.hid (show (if okL then (0 : Int) else 2) = eL by rw [← hokL]; exact heL)
  have EBL := Lib.hid (show (if okL then nsBL l else []) = BL by rw [← hokL]; exact hBL)
  have HEL := Lib.hid heL; have HBL := Lib.hid hBL
  clear hokL heL hBL
  go_upto_region 22 with (go_at_call 17; go_loud (refine (EncN_at _ l eL BL _ VL.out (by have := HLL.out; omega) HEL.out HBL.out).mono ?_; rintro r wL ⟨uL, rfl, hu, hw⟩; have UL := Lib.hid hu; replace D := Lib.hid (gr_tr D.out hw); replace XE := Lib.hid (blk_below XE.out hw); replace XH := Lib.hid (blk_below XH.out hw); replace XS := Lib.hid (blk_below XS.out hw); replace XN := Lib.hid (blk_below XN.out hw); replace TAB := Lib.hid (tab_below TAB.out hw); replace VL := Lib.hid (VL.out.below hw); replace VZ := Lib.hid (VZ.out.below hw); clear hu hw))
  go_upto_if 121 with (fail)
  go_cut [] (fun wx => Below wL.heap.size wL wx)
  case first =>
    cases okL
    · have h2 : eL = 2 := EEL.out.symm
      subst h2
      go_wp2
      go_meet
      exact Below.refl _ _
    · have h2 : eL = 0 := EEL.out.symm
      have h3 : nsBL l = BL := EBL.out
      have rt := ns_rt l OKL.out
      subst h2
      rw [h3] at rt
      have RT2 := Lib.hid rt
      clear rt h3
      go_upto_region 24 with (go_at_call 18; go_loud (refine (Decode_N BL _ _ l 0 UL.out (by have h := decP_le RT2.out; omega) RT2.out).mono ?_; rintro r wd ⟨ud, rfl, hs, hw⟩; have SD := Lib.hid hs; have DD := Lib.hid hw; have VD := Lib.hid (VL.out.below hw); clear hs hw))
      obtain ⟨a6, c6, e6, -, hc6, hm6, r6⟩ := SD.out
      obtain ⟨a7, c7, e7, -, hc7, hm7, r7⟩ := VD.out
      rw [flat1] at r6 r7
      have P6 := Lib.hid (show Row wd a6 (wh l) from r6); have P7 := Lib.hid (show Row wd a7 (wh l) from r7)
      injection e7 with e7 e8 e9
      subst e6 e7 e9
      clear r6 r7 hc6 hm6 hc7 hm7 e8
      go_upto_region 27 with (fail)
      go_loopw [31] (fun i wr => ∃ k : Nat, k ≤ l.length ∧ i = .int .i64 k ∧ Below wd.heap.size wd wr) (fun i _ => l.length - (intOf i).toNat)
      case atStart => exact ⟨0, by omega, rfl, Below.refl _ _⟩
      case round =>
        obtain ⟨k, hk, rfl, hb⟩ := hrel
        have Bk := Lib.hid hb; clear hb
        by_cases hlt : k < l.length
        · have hx := wh_get l k l[k] (List.getElem?_eq_getElem hlt)
          obtain ⟨b, o, rfl, hc1⟩ := (P6.out.below Bk.out).at hx
          obtain ⟨b', o', rfl, hc2⟩ := (P7.out.below Bk.out).at hx
          obtain ⟨zz, hzz⟩ : ∃ z, uv l[k] = z := ⟨_, rfl⟩
          rw [hzz] at hc1 hc2
          clear hx hzz
          go_wp2
          go_region
          all_goals (go_wp2; go_roundw)
          case rel => exact ⟨k + 1, by omega, by go_num, Bk.out.drew⟩
          case measure => simp [intOf]; omega
        · obtain rfl : k = l.length := by omega
          go_wp2
          go_meet
          exact gr_tr DD.out Bk.out
  case rest =>
  have hw := hcut
  obtain ⟨vL, hvL⟩ : ∃ x, x = wc := ⟨_, rfl⟩
  subst hvL
  replace D := Lib.hid (gr_tr D.out hw); replace XE := Lib.hid (blk_below XE.out hw); replace XH := Lib.hid (blk_below XH.out hw); replace XS := Lib.hid (blk_below XS.out hw); replace XN := Lib.hid (blk_below XN.out hw); replace TAB := Lib.hid (tab_below TAB.out hw); replace VL := Lib.hid (VL.out.below hw); replace VZ := Lib.hid (VZ.out.below hw)
  clear hw hcut

  obtain ⟨okZ, hokZ⟩ : ∃ b, zoOkL z = b := ⟨_, rfl⟩
  have OKZ := Lib.hid hokZ
  obtain ⟨eZ, heZ⟩ : ∃ e, zoEL z = e := ⟨_, rfl⟩
  obtain ⟨BZ, hBZ⟩ : ∃ B, zoRL z = B := ⟨_, rfl⟩
  have EEZ := Lib.hid (show (if okZ then (0 : Int) else 2) = eZ by rw [← hokZ]; exact heZ)
  have EBZ := Lib.hid (show (if okZ then zoBL z else []) = BZ by rw [← hokZ]; exact hBZ)
  have HEZ := Lib.hid heZ; have HBZ := Lib.hid hBZ
  clear hokZ heZ hBZ
  go_upto_region 32 with (go_at_call 19; go_loud (refine (EncZ_at _ z eZ BZ _ VZ.out (by have := HZL.out; omega) HEZ.out HBZ.out).mono ?_; rintro r wZ ⟨uZ, rfl, hu, hw⟩; have UZ := Lib.hid (BytesV.of_own hu); replace D := Lib.hid (gr_tr D.out hw); replace XE := Lib.hid (blk_below XE.out hw); replace XH := Lib.hid (blk_below XH.out hw); replace XS := Lib.hid (blk_below XS.out hw); replace XN := Lib.hid (blk_below XN.out hw); replace TAB := Lib.hid (tab_below TAB.out hw); replace VL := Lib.hid (VL.out.below hw); replace VZ := Lib.hid (VZ.out.below hw); clear hu hw))
  go_upto_if 157 with (fail)
  go_cut [] (fun wx => Below wZ.heap.size wZ wx)
  case first =>
    cases okZ
    · have h2 : eZ = 2 := EEZ.out.symm
      subst h2
      go_wp2
      go_meet
      exact Below.refl _ _
    · have h2 : eZ = 0 := EEZ.out.symm
      have h3 : zoBL z = BZ := EBZ.out
      have rt := zo_rt z OKZ.out
      subst h2
      rw [h3] at rt
      have RT2 := Lib.hid rt
      clear rt h3
      go_wp2_with (first
        | (go_at_call 20; go_loud (refine (Decode_Z BZ _ _ z 0 UZ.out (by have h := decP_le RT2.out; omega) RT2.out).mono ?_; rintro r wd ⟨ud, rfl, hs, hw⟩; have SD := Lib.hid hs; have DD := Lib.hid hw; have VD := Lib.hid (VZ.out.below hw); clear hs hw))
        | (go_at_call 21; go_loud (refine (SameWordsS _ _ z _ SD.out VD.out).mono ?_; rintro r we ⟨rfl, hw⟩; have DD2 := Lib.hid (gr_tr DD.out hw); clear hw)))
      go_meet
      exact DD2.out
  case rest =>
  have hw := hcut
  obtain ⟨vZ, hvZ⟩ : ∃ x, x = wc := ⟨_, rfl⟩
  subst hvZ
  replace D := Lib.hid (gr_tr D.out hw); replace XE := Lib.hid (blk_below XE.out hw); replace XH := Lib.hid (blk_below XH.out hw); replace XS := Lib.hid (blk_below XS.out hw); replace XN := Lib.hid (blk_below XN.out hw); replace TAB := Lib.hid (tab_below TAB.out hw); replace VL := Lib.hid (VL.out.below hw); replace VZ := Lib.hid (VZ.out.below hw)
  clear hw hcut

  go_wp2_with (go_at_call 5; go_loud (refine (known_any _ TAB.out).mono ?_; rintro r wk ⟨rfl, hw⟩; have DK := Lib.hid (gr_tr D.out hw); clear hw))
  go_ret
  exact ⟨rfl, DK.out⟩
end Go.Proofs.YthnnopjakpjoeaaGreatDoor
