/- Merged: LogH, LogI, LogJ. -/
import Derived.Test.YthnnopjakpjoeaaDoorLogD
import Derived.Deep.MidRow
import Derived.Test.YthnnopjakpjoeaaDoorLogN
import Derived.Test.YthnnopjakpjoeaaDoorRows2
import Derived.Test.YthnnopjakpjoeaaDoorLogR
import Derived.Test.YthnnopjakpjoeaaDoorPlan2
namespace Go.Proofs.YthnnopjakpjoeaaDoor
open Go.RowKit Lg
set_option linter.unusedVariables false
set_option linter.unusedSimpArgs false
theorem hl_cells (x : Hl) : Hl.cells x = [.int .u8 (uv x.warning), .int .u16 (uv x.temperature), .int .u8 (uv x.spare), .int .u8 (uv x.threshold), .int .u8 (uv x.used)] ++ wd x.counters := by
  unfold Hl.cells wd
  rw [flat1, List.append_nil]; rfl
set_option maxRecDepth 100000 in
theorem wpList_index_u64 {ops : Array Oper} {rest : List Oper} {op : Oper} {a : Act} {w : World} {Q : Exit → Act → World → Prop} (hgd : op.guard = none) (x i : Operand) (ho : op.op = .index 130 x i) (cs : List (BitVec 64)) (hr : cs.length = 10)
    (hx : a.eval x = .agg (wd cs).toArray) (k : Nat) (hi : a.eval i = .int .i64 (k : Int)) (c : BitVec 64) (hs : cs[k]? = some c)
    (h : wpList Tryd.prog ops Q rest (a.put op.dst (.int .u64 (uv c))) w) : wpList Tryd.prog ops Q (op :: rest) a w := by
  refine wpList_plain hgd fun _ hK => ?_
  have hrun : (Instr.index 130 (.agg (wd cs).toArray) (.int .i64 (k : Int))).run Tryd.prog w = .ok (.int .u64 (uv c)) w := by
    obtain ⟨hk, he⟩ := List.getElem?_eq_some_iff.1 hs
    match cs, hr with
    | [s0, s1, s2, s3, s4, s5, s6, s7, s8, s9], _ =>
      have hk7 : k = 0 ∨ k = 1 ∨ k = 2 ∨ k = 3 ∨ k = 4 ∨ k = 5 ∨ k = 6 ∨ k = 7 ∨ k = 8 ∨ k = 9 := by simp at hk; omega
      rcases hk7 with rfl | rfl | rfl | rfl | rfl | rfl | rfl | rfl | rfl | rfl <;> (subst he; rfl)
  unfold Oper.wp execOp
  simp only [ho, hx, hi, Sem.run_bind, Sem.run_pure, Result.andThen_ok, hrun]
  exact hK _ _ h
theorem hlTl_n (cs : List (BitVec 64)) : (hlTl cs).length = 2 * cs.length := by
  induction cs with
  | nil => rfl
  | cons c cs ih =>
    have e : hlTl (c :: cs) = [(c, 8), (0#64, 8)] ++ hlTl cs := by unfold hlTl; rw [List.flatMap_cons]
    rw [e, List.length_append, ih, List.length_cons]
    simp only [List.length_cons, List.length_nil]
    omega
theorem hlFl_n (x : Hl) (h : x.counters.length = 10) : (hlFl x).length = 29 := by
  unfold hlFl
  rw [List.length_append, hlTl_n, h]; rfl
/-- 'append(own, f, g)' at fields. -/
theorem app_fields2 {ops : Array Oper} {rest : List Oper} {o : Oper} {a : Act} {Q : Exit → Act → World → Prop} {W : World} (hgd : o.guard = none) (s x : Operand) (ho : o.op = .call { callee := .builtin .append, args := #[s, x], argTypes := #[190, 190] })
    (u : Value) (base n : Nat) (fl : List WF) (hs : a.eval s = u) (hown : W.ownsRow base 192 2 u n (fCells fl)) (hbase : base ≤ W.heap.size) (f g : WF) (ty : TypeId) (hx : a.eval x = .slice (some ⟨W.heap.size, 0, none⟩) 2 2) (hl : n ≤ 100000)
    (h : ∀ v' w', w'.ownsRow base 192 2 v' (n + 2) (fCells (fl ++ [f, g])) → Below base W w' → wpList Tryd.prog ops Q rest (a.put o.dst v') w') : wpList Tryd.prog ops Q (o :: rest) a (W.alloc (.cells #[.int .u64 (uv f.1), .int .i64 f.2, .int .u64 (uv g.1), .int .i64 g.2] ty)) := by
  have hb := gr_alloc W (.cells #[.int .u64 (uv f.1), .int .i64 f.2, .int .u64 (uv g.1), .int .i64 g.2] ty)
  refine app_law_at fieldsOk hgd s x ho base u n (fCells fl) hs (own_below hown hb) (some ⟨W.heap.size, 0, none⟩) 2 2 (fCells [f, g]) hx some_none (Nat.le_refl _) (Row.lit W #[.int .u64 (uv f.1), .int .i64 f.2, .int .u64 (uv g.1), .int .i64 g.2] ty (0, 0)) rfl (by intro u hu; simp [fCells] at hu; rcases hu with rfl | rfl | rfl | rfl <;> rfl) (by omega) (by omega) (Nat.le_trans hbase hb.size) ?_
  intro v' w' h1 h2 h3
  rw [← fCells_app] at h1
  exact h v' w' h1 ((hb.mono hbase).grown h2 (Nat.le_trans hbase hb.size) (fun k hk => (hown.lt k hk).1))
set_option maxHeartbeats 3200000 in
set_option maxRecDepth 20000 in
theorem EncHl_at (x : Hl) (B : List (BitVec 8)) (w : World) (hx : x.counters.length = 10) (hB : hlB x = B) :
    Calls Tryd.prog 62 #[.agg (Hl.cells x).toArray] w fun r w' => ∃ u, r = .returned u ∧ w'.ownsRow w.heap.size 5 1 u B.length (by8 B) ∧ Below w.heap.size w w' := by
  have HB := Lib.hid (show pageB 512 (hlFl x) = B from hB)
  have HX := Lib.hid hx
  obtain ⟨cx, hcx⟩ : ∃ c, (Hl.cells x).toArray = c := ⟨_, rfl⟩
  rw [hcx]
  obtain ⟨W, hW⟩ : ∃ W, W = w.alloc (.cells cx 132) := ⟨_, rfl⟩
  have D := Lib.hid (show Below w.heap.size w W by rw [hW]; exact gr_alloc w _)
  have X := Lib.hid (show W.heap[w.heap.size]? = some (.cells cx 132 (0, 0)) by rw [hW]; exact heap_alloc_new w _)
  have hce : ∀ (i : Nat) (v : Value), (Hl.cells x)[i]? = some v → cx[i]? = some v := fun i v h => by rw [← hcx, List.getElem?_toArray]; exact h
  have hcl := hl_cells x
  have q0 : ∀ y : KeepT nowhere W, y.val.cell? ⟨w.heap.size, 0, none⟩ = some (.int .u8 (uv x.warning)) := fun y => y.cell ((cell_of_row _ _ 0 _ _ _ X.out).trans (hce 0 _ (by rw [hcl]; rfl))) id
  have q1 : ∀ y : KeepT nowhere W, y.val.cell? ⟨w.heap.size, 1, none⟩ = some (.int .u16 (uv x.temperature)) := fun y => y.cell ((cell_of_row _ _ 1 _ _ _ X.out).trans (hce 1 _ (by rw [hcl]; rfl))) id
  have q2 : ∀ y : KeepT nowhere W, y.val.cell? ⟨w.heap.size, 2, none⟩ = some (.int .u8 (uv x.spare)) := fun y => y.cell ((cell_of_row _ _ 2 _ _ _ X.out).trans (hce 2 _ (by rw [hcl]; rfl))) id
  have q3 : ∀ y : KeepT nowhere W, y.val.cell? ⟨w.heap.size, 3, none⟩ = some (.int .u8 (uv x.threshold)) := fun y => y.cell ((cell_of_row _ _ 3 _ _ _ X.out).trans (hce 3 _ (by rw [hcl]; rfl))) id
  have q4 : ∀ y : KeepT nowhere W, y.val.cell? ⟨w.heap.size, 4, none⟩ = some (.int .u8 (uv x.used)) := fun y => y.cell ((cell_of_row _ _ 4 _ _ _ X.out).trans (hce 4 _ (by rw [hcl]; rfl))) id
  have RNG := Lib.hid (show ∀ V, Below W.heap.size W V → V.rangeAt w.heap.size 5 (wd x.counters) from fun V hV j v hj => by
    rw [cell_of_row _ _ (5 + j) _ _ _ (blk_below X.out hV)]
    refine hce _ _ ?_
    rw [hcl, List.getElem?_append_right (by simp)]
    simpa using hj)
  have HW := Lib.hid hW
  clear hW hcx hce hcl hx hB
  go_enter Tryd.func62, Tryd.ntmps62
  go_upto_region 1 with (fail)
  first
    | rw [← HW.out]
    | (show Code.wp _ _ _ _ (w.alloc (.cells cx 132)); rw [← HW.out])
  refine wp_region_planW nowhere [(true, 0), (true, 1), (true, 2), (true, 4), (true, 5), (true, 6), (true, 8), (true, 9), (true, 10), (true, 12), (true, 13), (true, 14), (true, 16), (true, 17), (true, 18), (false, 3), (false, 7), (false, 11), (false, 15), (false, 19), (false, 20), (false, 21), (false, 22), (false, 23), (false, 24), (true, 25)] (by kernel_rfl) (by kernel_rfl) (by intro c a d v w h; cases d <;> exact h) ?_
  intro W1 K1 C1
  repeat (refine wpS_firm rfl (fun K hK => ?_); simp only [Keep]; go_simp; refine hK _ ?_; clear hK K)
  refine wpS_chain rfl ?_
  go_wp2_with (go_at_call 100; go_loud (refine (f_any _ _ _).mono ?_; rintro r X2 ⟨rfl, hw⟩; have K2 := Lib.hid (K1.out.below hw); have C2 := Lib.hid (gr_tr C1.out hw); clear hw))
  refine ⟨K2.out, ?_⟩
  refine wpS_chain rfl ?_
  go_wp2_with (go_at_call 100; go_loud (refine (f_any _ _ _).mono ?_; rintro r X3 ⟨rfl, hw⟩; have K3 := Lib.hid (K2.out.below hw); have C3 := Lib.hid (gr_tr C2.out hw); clear hw))
  refine ⟨K3.out, ?_⟩
  refine wpS_chain rfl ?_
  go_wp2_with (go_at_call 100; go_loud (refine (f_any _ _ _).mono ?_; rintro r X4 ⟨rfl, hw⟩; have K4 := Lib.hid (K3.out.below hw); have C4 := Lib.hid (gr_tr C3.out hw); clear hw))
  refine ⟨K4.out, ?_⟩
  refine wpS_chain rfl ?_
  go_wp2_with (go_at_call 100; go_loud (refine (f_any _ _ _).mono ?_; rintro r X5 ⟨rfl, hw⟩; have K5 := Lib.hid (K4.out.below hw); have C5 := Lib.hid (gr_tr C4.out hw); clear hw))
  refine ⟨K5.out, ?_⟩
  refine wpS_chain rfl ?_
  go_wp2_with (go_at_call 100; go_loud (refine (f_any _ _ _).mono ?_; rintro r X6 ⟨rfl, hw⟩; have K6 := Lib.hid (K5.out.below hw); have C6 := Lib.hid (gr_tr C5.out hw); clear hw))
  refine ⟨K6.out, ?_⟩
  refine wpS_chain rfl ?_
  go_wp2_with (go_at_call 100; go_loud (refine (f_any _ _ _).mono ?_; rintro r X7 ⟨rfl, hw⟩; have K7 := Lib.hid (K6.out.below hw); have C7 := Lib.hid (gr_tr C6.out hw); clear hw))
  refine ⟨K7.out, ?_⟩
  refine wpS_chain rfl ?_
  go_wp2_with (go_at_call 100; go_loud (refine (f_any _ _ _).mono ?_; rintro r X8 ⟨rfl, hw⟩; have K8 := Lib.hid (K7.out.below hw); have C8 := Lib.hid (gr_tr C7.out hw); clear hw))
  refine ⟨K8.out, ?_⟩
  refine wpS_chain rfl ?_
  go_wp2_with (go_at_call 100; go_loud (refine (f_any _ _ _).mono ?_; rintro r X9 ⟨rfl, hw⟩; have K9 := Lib.hid (K8.out.below hw); have C9 := Lib.hid (gr_tr C8.out hw); clear hw))
  refine ⟨K9.out, ?_⟩
  refine wpS_chain rfl ?_
  go_wp2_with (go_at_call 100; go_loud (refine (f_any _ _ _).mono ?_; rintro r X10 ⟨rfl, hw⟩; have K10 := Lib.hid (K9.out.below hw); have C10 := Lib.hid (gr_tr C9.out hw); clear hw))
  refine ⟨K10.out, ?_⟩
  refine wpS_chain rfl ?_
  go_wp2
  refine ⟨K10.out.alloc _, ?_⟩
  repeat (refine wpS_firm rfl (fun K hK => ?_); simp only [Keep]; go_simp; refine hK _ ?_; clear hK K)
  unfold wpS
  have O := Lib.hid (show (X10.alloc (.cells #[.int .u64 (uv (x.warning.setWidth 64)), .int .i64 1, .int .u64 (uv (x.temperature.setWidth 64)), .int .i64 2, .int .u64 (uv (x.spare.setWidth 64)), .int .i64 1, .int .u64 (uv (x.threshold.setWidth 64)), .int .i64 1, .int .u64 (uv (x.used.setWidth 64)), .int .i64 1, .int .u64 0, .int .i64 8, .int .u64 0, .int .i64 8, .int .u64 0, .int .i64 8, .int .u64 0, .int .i64 2] 192)).ownsRow W.heap.size 192 2 (.slice (some ⟨X10.heap.size, 0, none⟩) 9 9) 9 (fCells (hlHd x ++ hlTl (x.counters.take 0))) by
    have h := World.ownsRow_lit (base := W.heap.size) (size := 2) (e := 192) X10 #[.int .u64 (uv (x.warning.setWidth 64)), .int .i64 1, .int .u64 (uv (x.temperature.setWidth 64)), .int .i64 2, .int .u64 (uv (x.spare.setWidth 64)), .int .i64 1, .int .u64 (uv (x.threshold.setWidth 64)), .int .i64 1, .int .u64 (uv (x.used.setWidth 64)), .int .i64 1, .int .u64 0, .int .i64 8, .int .u64 0, .int .i64 8, .int .u64 0, .int .i64 8, .int .u64 0, .int .i64 2] 9 (by have := C10.out.size; exact this) (by decide) rfl
    have e : (#[.int .u64 (uv (x.warning.setWidth 64)), .int .i64 1, .int .u64 (uv (x.temperature.setWidth 64)), .int .i64 2, .int .u64 (uv (x.spare.setWidth 64)), .int .i64 1, .int .u64 (uv (x.threshold.setWidth 64)), .int .i64 1, .int .u64 (uv (x.used.setWidth 64)), .int .i64 1, .int .u64 0, .int .i64 8, .int .u64 0, .int .i64 8, .int .u64 0, .int .i64 8, .int .u64 0, .int .i64 2] : Array Value).toList = fCells (hlHd x ++ hlTl (x.counters.take 0)) := by
      first | rfl | (simp [fCells, hlHd, hlTl]; done) | (simp [fCells, hlHd, hlTl]; rfl)
    rw [← e]; exact h)
  have C := Lib.hid (gr_tr C10.out (gr_alloc X10 (.cells #[.int .u64 (uv (x.warning.setWidth 64)), .int .i64 1, .int .u64 (uv (x.temperature.setWidth 64)), .int .i64 2, .int .u64 (uv (x.spare.setWidth 64)), .int .i64 1, .int .u64 (uv (x.threshold.setWidth 64)), .int .i64 1, .int .u64 (uv (x.used.setWidth 64)), .int .i64 1, .int .u64 0, .int .i64 8, .int .u64 0, .int .i64 8, .int .u64 0, .int .i64 8, .int .u64 0, .int .i64 2] 192)))
  obtain ⟨V, hV⟩ : ∃ V, X10.alloc (.cells #[.int .u64 (uv (x.warning.setWidth 64)), .int .i64 1, .int .u64 (uv (x.temperature.setWidth 64)), .int .i64 2, .int .u64 (uv (x.spare.setWidth 64)), .int .i64 1, .int .u64 (uv (x.threshold.setWidth 64)), .int .i64 1, .int .u64 (uv (x.used.setWidth 64)), .int .i64 1, .int .u64 0, .int .i64 8, .int .u64 0, .int .i64 8, .int .u64 0, .int .i64 8, .int .u64 0, .int .i64 2] 192) = V := ⟨_, rfl⟩
  rw [hV] at O C ⊢
  clear hV q0 q1 q2 q3 q4
  have RV := Lib.hid (RNG.out V C.out)
  go_upto_region 3 with (refine wpList_load_mid rfl 130 (.tmp 31) rfl w.heap.size 5 rfl (wd x.counters) _ RV.out Tryd.underlying130 rfl (by rw [show (wd x.counters).length = 10 by unfold wd; rw [List.length_map]; exact HX.out]; kernel_rfl) ?_)
  go_loopw [3, 33] (fun u i wr => ∃ k : Nat, k ≤ 10 ∧ i = .int .i64 k ∧ wr.ownsRow W.heap.size 192 2 u (9 + 2 * k) (fCells (hlHd x ++ hlTl (x.counters.take k))) ∧ Below W.heap.size W wr) (fun _ i _ => 10 - (intOf i).toNat)
  case atStart => exact ⟨0, by omega, rfl, O.out, C.out⟩
  case round =>
    obtain ⟨k, hk, rfl, ho, hb⟩ := hrel
    have O1 := Lib.hid ho; have D1 := Lib.hid hb; clear ho hb
    by_cases hlt : k < 10
    · obtain ⟨c, hc⟩ : ∃ c, x.counters[k]? = some c := ⟨_, List.getElem?_eq_getElem (by rw [HX.out]; exact hlt)⟩
      have HC := Lib.hid hc
      have HS := Lib.hid (show hlHd x ++ hlTl (x.counters.take (k + 1)) = (hlHd x ++ hlTl (x.counters.take k)) ++ [(c, 8), (0#64, 8)] by
        obtain ⟨h5, rfl⟩ := List.getElem?_eq_some_iff.1 hc
        rw [List.take_succ_eq_append_getElem h5, List.append_assoc]
        congr 1
        unfold hlTl; rw [List.flatMap_append]; rfl)
      clear hc
      go_wp2_with (first
        | (refine wpList_index_u64 rfl (.tmp 32) (.tmp 33) rfl x.counters HX.out rfl k rfl c HC.out ?_)
        | (go_at_call 100; go_loud (refine (f_any _ 8 wr).mono ?_; rintro r w1 ⟨rfl, hw⟩; have D2 := Lib.hid (gr_tr D1.out hw); have O2 := Lib.hid (own_below O1.out hw); clear hw))
        | (go_at_call 100; go_loud (refine (f_any _ 8 w1).mono ?_; rintro r w2 ⟨rfl, hw⟩; have D3 := Lib.hid (gr_tr D2.out hw); have O3 := Lib.hid (own_below O2.out hw); clear hw))
        | (at_builtin; refine app_fields2 rfl (.tmp 36) (.tmp 40) rfl _ W.heap.size (9 + 2 * k) (hlHd x ++ hlTl (x.counters.take k)) rfl O3.out D3.out.size (c, 8) (0#64, 8) _ rfl (by omega) ?_; intro v2 w4 ho hb; have O4 := Lib.hid ho; have D4 := Lib.hid (D3.out.trans hb); clear ho hb))
      go_roundw
      case rel => exact ⟨k + 1, by omega, by go_num, by rw [HS.out]; exact O4.out, D4.out⟩
      case measure => simp [intOf]; omega
    · obtain rfl : k = 10 := by omega
      have e10 : x.counters.take 10 = x.counters := List.take_of_length_le (by rw [HX.out]; decide)
      have FV := Lib.hid (show FieldsV wr u3 (hlFl x) from FieldsV.own (hlFl_n x HX.out).symm (by have := O1.out; rwa [e10] at this))
      clear e10
      go_wp2_with (go_at_call 101; go_loud (refine (page_any 512 512 _ (hlFl x) B _ rfl FV.out (by rw [hlFl_n x HX.out]; decide) (hl_e x) (by omega) (by rw [hl_len, HX.out]; decide) HB.out).mono ?_; rintro r w3 ⟨u3, rfl, ho, hw⟩; have V3 := Lib.hid (own_base ho (Nat.le_trans D.out.size D1.out.size)); have D3 := Lib.hid (gr_tr D1.out hw); clear ho hw))
      go_ret
      exact ⟨_, rfl, V3.out, gr_tr D.out D3.out⟩
end Go.Proofs.YthnnopjakpjoeaaDoor
namespace Go.Proofs.YthnnopjakpjoeaaDoor
open Go.RowKit Lg
set_option linter.unusedVariables false
set_option linter.unusedSimpArgs false
namespace Lg
def hlOk (x : Hl) : Bool := x.counters.length == 10
def hlE (x : Hl) : Int := if hlOk x then 0 else 2
def hlR (x : Hl) : List (BitVec 8) := if hlOk x then hlB x else []
def hlOkB (l : List (BitVec 8)) : Bool := hlOk (hlRd l) && (hlB (hlRd l) == l)
def hlX (l : List (BitVec 8)) (k : Nat) : Hl := { hlRd l with counters := (hlCs l).take k ++ List.replicate (10 - k) 0#64 }
def hlA (l : List (BitVec 8)) (k : Nat) : Array Value := (Hl.cells (hlX l k)).toArray
theorem hlCs_len (l : List (BitVec 8)) : (hlCs l).length = 10 := by unfold hlCs; rw [List.length_map, List.length_range]
theorem hlX_len (l : List (BitVec 8)) (k : Nat) (hk : k ≤ 10) : (hlX l k).counters.length = 10 := by
  show ((hlCs l).take k ++ List.replicate (10 - k) 0#64).length = 10
  rw [List.length_append, List.length_take, hlCs_len, List.length_replicate, Nat.min_eq_left hk]; omega
theorem hl_size (x : Hl) (h : x.counters.length = 10) : (Hl.cells x).toArray.size = 15 := by
  rw [List.size_toArray, hl_cells, List.length_append]
  unfold wd
  rw [List.length_map, h]; rfl
theorem hl_one (x : Hl) : (Hl.cells x).toArray.all (·.oneCell') = true := by
  rw [hl_cells]
  simp [wd, Value.oneCell']
theorem hlA_set (l : List (BitVec 8)) (k : Nat) (c : BitVec 64) (hk : k < 10) (hc : num l (32 + 16 * k) 8 = c) : (hlA l k).setIfInBounds (5 + k) (.int .u64 (uv c)) = hlA l (k + 1) := by
  unfold hlA
  rw [hl_cells, hl_cells, List.setIfInBounds_toArray]
  congr 1
  rw [List.set_append_right _ _ (by simp)]
  show _ ++ _ = _ ++ wd ((hlCs l).take (k + 1) ++ List.replicate (10 - (k + 1)) 0#64)
  congr 1
  show (wd ((hlCs l).take k ++ List.replicate (10 - k) 0#64)).set (5 + k - 5) _ = _
  unfold wd
  rw [← List.map_set (f := fun x : BitVec 64 => Value.int .u64 (uv x)) (a := c)]
  congr 1
  have h1 : ((hlCs l).take k).length = k := by rw [List.length_take, hlCs_len]; omega
  rw [show 5 + k - 5 = k by omega, List.set_append_right _ _ (by omega), h1, Nat.sub_self, show 10 - k = (10 - (k + 1)) + 1 by omega, List.replicate_succ, List.set_cons_zero,
    List.take_succ_eq_append_getElem (by rw [hlCs_len]; exact hk), List.append_assoc]
  congr 1
  rw [List.singleton_append]
  congr 1
  unfold hlCs
  rw [List.getElem_map, List.getElem_range, hc]
theorem hlA_ten (l : List (BitVec 8)) : hlA l 10 = (Hl.cells (hlRd l)).toArray := by
  unfold hlA hlX
  rw [List.take_of_length_le (by rw [hlCs_len]; decide), Nat.sub_self]
  show (Hl.cells { hlRd l with counters := hlCs l ++ [] }).toArray = _
  rw [List.append_nil]; rfl
theorem hlA_size (l : List (BitVec 8)) (k : Nat) (hk : k ≤ 10) : (hlA l k).size = 15 := hl_size _ (hlX_len l k hk)
theorem hlA_get (l : List (BitVec 8)) (k : Nat) (hk : k < 10) : (hlA l k)[5 + k]? = some (.int .u64 0) := by
  unfold hlA
  rw [List.getElem?_toArray, hl_cells, List.getElem?_append_right (by simp)]
  show (wd ((hlCs l).take k ++ List.replicate (10 - k) 0#64))[5 + k - 5]? = _
  unfold wd
  have h1 : ((hlCs l).take k).length = k := by rw [List.length_take, hlCs_len]; omega
  rw [show 5 + k - 5 = k by omega, List.getElem?_map, List.getElem?_append_right (by omega), h1, Nat.sub_self, List.getElem?_replicate, if_pos (by omega)]; rfl
theorem hl_dec_len {f : List (BitVec 8) → Bool} {l : List (BitVec 8)} {y : Hl} {e : Int} (h : decP 512 hlRd f hlZ l = (y, e)) : y.counters.length = 10 := by
  unfold decP at h
  repeat' (split at h)
  all_goals (cases h)
  all_goals first | rfl | exact hlRd_len l
end Lg
theorem rd_chgH {w w' : World} {T : TypeId} {r d Y : Nat} {v : Value} {l : List (BitVec 8)} {n : Nat} (h : RdAt w T r d v l n) (c : Chg (fun b => b = Y) w w') (hY : r < Y) : RdAt w' T r d v l n :=
  ⟨c.blk h.blk (by omega), h.bytes.chg c (fun g o m k e hg => by have h1 := h.old ⟨g, o, none⟩ m k e; have h2 := h.le; simp only at h1; omega), h.small, h.old, h.le⟩
set_option maxHeartbeats 3200000 in
set_option maxRecDepth 20000 in
theorem readHl_at {d : Nat} (p : Nat) (v : Value) (l : List (BitVec 8)) (w : World) (hp : RdAt w 287 p d v l 0) (hl : l.length = 512) :
    Calls Tryd.prog 122 #[.pointer (some ⟨p, 0, none⟩)] w fun e w' => e = .returned (.agg (Hl.cells (hlRd l)).toArray) ∧ Chg (fun b => b = p) w w' := by
  have A0 := Lib.hid (show hlA l 0 = #[.int .u8 (uv ((num l 0 1).setWidth 8)), .int .u16 (uv ((num l 1 2).setWidth 16)), .int .u8 (uv ((num l 3 1).setWidth 8)), .int .u8 (uv ((num l 4 1).setWidth 8)), .int .u8 (uv ((num l 5 1).setWidth 8)), .int .u64 0, .int .u64 0, .int .u64 0, .int .u64 0, .int .u64 0, .int .u64 0, .int .u64 0, .int .u64 0, .int .u64 0, .int .u64 0] from rfl)
  have AS := Lib.hid (fun (k : Nat) (c : BitVec 64) (hk : k < 10) (hc : num l (32 + 16 * k) 8 = c) => hlA_set l k c hk hc)
  have AG := Lib.hid (fun (k : Nat) (hk : k < 10) => hlA_get l k hk)
  have AZ := Lib.hid (hlA_size l 10 (Nat.le_refl _))
  have AO := Lib.hid (show (hlA l 10).all (·.oneCell') = true from hl_one _)
  rw [← hlA_ten l]
  obtain ⟨A, hA⟩ : ∃ A, hlA l = A := ⟨_, rfl⟩
  rw [hA] at A0 AS AG AZ AO
  rw [hA]
  clear hA
  obtain ⟨x0, h0⟩ : ∃ x, num l 0 1 = x := ⟨_, rfl⟩
  obtain ⟨x1, h1⟩ : ∃ x, num l 1 2 = x := ⟨_, rfl⟩
  obtain ⟨x2, h2⟩ : ∃ x, num l 3 1 = x := ⟨_, rfl⟩
  obtain ⟨x3, h3⟩ : ∃ x, num l 4 1 = x := ⟨_, rfl⟩
  obtain ⟨x4, h4⟩ : ∃ x, num l 5 1 = x := ⟨_, rfl⟩
  rw [h0, h1, h2, h3, h4] at A0
  have H0 := Lib.hid h0; have H1 := Lib.hid h1; have H2 := Lib.hid h2; have H3 := Lib.hid h3; have H4 := Lib.hid h4; have HL := Lib.hid hl
  have PLT := Lib.hid hp.lt
  obtain ⟨w0, hW⟩ : ∃ W, W = w.alloc (.cells #[.int .u8 0, .int .u16 0, .int .u8 0, .int .u8 0, .int .u8 0, .int .u64 0, .int .u64 0, .int .u64 0, .int .u64 0, .int .u64 0, .int .u64 0, .int .u64 0, .int .u64 0, .int .u64 0, .int .u64 0] 132) := ⟨_, rfl⟩
  have D := Lib.hid (show Below w.heap.size w w0 by rw [hW]; exact gr_alloc w _)
  have X0 := Lib.hid (show w0.heap[w.heap.size]? = some (.cells #[.int .u8 0, .int .u16 0, .int .u8 0, .int .u8 0, .int .u8 0, .int .u64 0, .int .u64 0, .int .u64 0, .int .u64 0, .int .u64 0, .int .u64 0, .int .u64 0, .int .u64 0, .int .u64 0, .int .u64 0] 132 (0, 0)) by rw [hW]; exact heap_alloc_new w _)
  have R0 := Lib.hid (show RdAt w0 287 p d v (l.drop 0) 0 by rw [List.drop_zero]; exact hp.below D.out)
  have NP := Lib.hid (show ¬ w.heap.size = p by have := PLT.out; omega)
  obtain ⟨v0, hv0⟩ : ∃ u, u = v := ⟨_, rfl⟩
  rw [← hv0] at R0
  have HW := Lib.hid hW
  clear h0 h1 h2 h3 h4 hl hp hW hv0
  go_enter Tryd.func122, Tryd.ntmps122
  go_upto_region 1 with (fail)
  rw [← HW.out]
  have CC0 := Lib.hid (Chg.of_below (B := fun b => b = p) D.out)
  have C0 := CC0
  go_upto_region 2 with (first
    | (go_at_call 104; go_loud ((with_reducible refine (next_at p v0 l 0 0 1 1 x0 w0 rfl R0.out (by decide) (by decide) (by rw [HL.out]; decide) H0.out).mono ?_); rintro r w1 ⟨rfl, ⟨v1, hr⟩, hc⟩; have R1 := Lib.hid hr; have C1 := Lib.hid (C0.out.trans hc); have X1 := Lib.hid (hc.blk X0.out NP.out); clear hr hc))
    | (go_at_call 104; go_loud ((with_reducible refine (next_at p v1 l 1 1 2 2 x1 w1 rfl R1.out (by decide) (by decide) (by rw [HL.out]; decide) H1.out).mono ?_); rintro r w2 ⟨rfl, ⟨v2, hr⟩, hc⟩; have R2 := Lib.hid hr; have C2 := Lib.hid (C1.out.trans hc); have X2 := Lib.hid (hc.blk X1.out NP.out); clear hr hc))
    | (go_at_call 104; go_loud ((with_reducible refine (next_at p v2 l 3 3 1 1 x2 w2 rfl R2.out (by decide) (by decide) (by rw [HL.out]; decide) H2.out).mono ?_); rintro r w3 ⟨rfl, ⟨v3, hr⟩, hc⟩; have R3 := Lib.hid hr; have C3 := Lib.hid (C2.out.trans hc); have X3 := Lib.hid (hc.blk X2.out NP.out); clear hr hc))
    | (go_at_call 104; go_loud ((with_reducible refine (next_at p v3 l 4 4 1 1 x3 w3 rfl R3.out (by decide) (by decide) (by rw [HL.out]; decide) H3.out).mono ?_); rintro r w4 ⟨rfl, ⟨v4, hr⟩, hc⟩; have R4 := Lib.hid hr; have C4 := Lib.hid (C3.out.trans hc); have X4 := Lib.hid (hc.blk X3.out NP.out); clear hr hc))
    | (go_at_call 104; go_loud ((with_reducible refine (next_at p v4 l 5 5 1 1 x4 w4 rfl R4.out (by decide) (by decide) (by rw [HL.out]; decide) H4.out).mono ?_); rintro r w5 ⟨rfl, ⟨v5, hr⟩, hc⟩; have R5 := Lib.hid hr; have C5 := Lib.hid (C4.out.trans hc); have X5 := Lib.hid (hc.blk X4.out NP.out); clear hr hc))
    | (refine wpList_store_new rfl 132 (.tmp 3) (.tmp 20) rfl #[.int .u8 (uv (x0.setWidth 8)), .int .u16 (uv (x1.setWidth 16)), .int .u8 (uv (x2.setWidth 8)), .int .u8 (uv (x3.setWidth 8)), .int .u8 (uv (x4.setWidth 8)), .int .u64 0, .int .u64 0, .int .u64 0, .int .u64 0, .int .u64 0, .int .u64 0, .int .u64 0, .int .u64 0, .int .u64 0, .int .u64 0] 132 _ rfl rfl (by kernel_rfl) rfl (by simp [Value.oneCell']) ?_; intro w6 hh hb; have Y6 := Lib.hid hh; have R6 := Lib.hid (R5.out.below hb); have C6 := Lib.hid (C5.out.trans (Chg.of_below (B := fun b => b = p) hb)); have X6 := Lib.hid (blk_below X5.out hb); clear hh hb))
  obtain ⟨Y, hY⟩ : ∃ Y, w5.heap.size = Y := ⟨_, rfl⟩
  have NE := Lib.hid (show ¬ Y = p ∧ ¬ w.heap.size = Y ∧ w.heap.size ≤ Y ∧ p < Y by
    have h1 := PLT.out; have h2 := C5.out.size; have h3 := (Array.getElem?_eq_some_iff.1 X5.out).1; omega)
  rw [hY] at Y6 ⊢
  rw [← A0.out] at Y6
  clear hY CC0
  go_upto_region 4 with (go_at_call 111; go_loud (refine (skip_at p v5 l 6 6 26 26 w6 rfl R6.out (by rw [HL.out]; decide)).mono ?_; rintro r w7 ⟨rfl, ⟨v7, hr⟩, hc⟩; have R7 := Lib.hid hr; have C7 := Lib.hid (C6.out.trans hc); have X7 := Lib.hid (hc.blk X6.out NP.out); have Y7 := Lib.hid (hc.blk Y6.out NE.out.1); clear hr hc))
  go_loopw [4, 23] (fun _ i wr => ∃ k : Nat, k ≤ 10 ∧ i = .int .i64 k ∧ (∃ vk, RdAt wr 287 p d vk (l.drop (32 + 16 * k)) (32 + 16 * k)) ∧ Chg (fun b => b = p) w wr ∧ wr.heap[w.heap.size]? = some (.cells #[.int .u8 0, .int .u16 0, .int .u8 0, .int .u8 0, .int .u8 0, .int .u64 0, .int .u64 0, .int .u64 0, .int .u64 0, .int .u64 0, .int .u64 0, .int .u64 0, .int .u64 0, .int .u64 0, .int .u64 0] 132 (0, 0)) ∧ wr.heap[Y]? = some (.cells (A k) 132 (0, 0))) (fun _ i _ => 10 - (intOf i).toNat)
  case atStart => exact ⟨0, by omega, rfl, ⟨_, R7.out⟩, C7.out, X7.out, Y7.out⟩
  case round =>
    obtain ⟨k, hk, rfl, ⟨va, hr⟩, hb, hx, hy⟩ := hrel
    have Ra := Lib.hid hr; have Ca := Lib.hid hb; have Xa := Lib.hid hx; have Ya := Lib.hid hy; clear hr hb hx hy
    by_cases hlt : k < 10
    · obtain ⟨c, hc⟩ : ∃ c, num l (32 + 16 * k) 8 = c := ⟨_, rfl⟩
      have HC := Lib.hid hc
      have SS := Lib.hid (AS.out k c hlt hc)
      clear hc
      have hk0 : (0 : Int) ≤ (k : Int) := by omega
      have hk1 : (k : Int) < 10 := by omega
      go_wp2_with (first
        | (go_at_call 104; go_loud ((with_reducible refine (next_at p va l (32 + 16 * k) (32 + 16 * k) 8 8 c wr rfl Ra.out (by decide) (by decide) (by rw [HL.out]; omega) HC.out).mono ?_); rintro r wb ⟨rfl, ⟨vb, hr⟩, hc⟩; have Rb := Lib.hid hr; have Cb := Lib.hid (Ca.out.trans hc); have Xb := Lib.hid (hc.blk Xa.out NP.out); have Yb := Lib.hid (hc.blk Ya.out NE.out.1); have yb : wb.cell? ⟨Y, 5 + k, none⟩ = some (.int .u64 0) := (cell_of_row _ _ _ _ _ _ Yb.out).trans (AG.out k hlt); have fb := frozen_of_row _ _ (5 + k) _ _ Yb.out; clear hr hc))
        | (go_at_call 111
           obtain ⟨wc, hwc⟩ : ∃ wc, wc = wb.setCell ⟨Y, 5 + k, none⟩ (.int .u64 (uv c)) := ⟨_, rfl⟩
           have cc : Chg (fun b => b = Y) wb wc := by rw [hwc]; exact Chg.setCell (B := fun b => b = Y) (p := ⟨Y, 5 + k, none⟩) _ rfl _
           have Yc := Lib.hid (show wc.heap[Y]? = some (.cells (A (k + 1)) 132 (0, 0)) by rw [hwc, ← SS.out]; exact heap_setCell_same _ _ _ _ _ _ Yb.out)
           have Xc := Lib.hid (cc.blk Xb.out NE.out.2.1)
           have Cc := Lib.hid (chg_newer Cb.out cc (fun g hg => by subst hg; exact NE.out.2.2.1))
           have Rc := Lib.hid (rd_chgH Rb.out cc NE.out.2.2.2)
           rw [← hwc]
           clear hwc cc yb fb
           go_loud (refine (skip_at p vb l (32 + 16 * k + 8) (32 + 16 * k + 8) 8 8 wc rfl Rc.out (by rw [HL.out]; omega)).mono ?_; rintro r wd ⟨rfl, ⟨vd, hr⟩, hc⟩; have Rd := Lib.hid hr; have Cd := Lib.hid (Cc.out.trans hc); have Xd := Lib.hid (hc.blk Xc.out NP.out); have Yd := Lib.hid (hc.blk Yc.out NE.out.1); clear hr hc)))
      go_roundw
      case rel => exact ⟨k + 1, by omega, by go_num, ⟨_, by have h := Rd.out; rwa [show 32 + 16 * k + 8 + 8 = 32 + 16 * (k + 1) by omega] at h⟩, Cd.out, Xd.out, Yd.out⟩
      case measure => simp [intOf]; omega
    · obtain rfl : k = 10 := by omega
      go_wp2_with (first
        | (refine wpList_load_row rfl 132 (.tmp 3) rfl Y rfl 132 (A 10) (0, 0) _ Ya.out Tryd.underlying132 rfl (by rw [AZ.out]; kernel_rfl) ?_)
        | (refine wpList_store_row rfl 132 (.tmp 2) (.tmp 34) rfl w.heap.size (A 10) rfl rfl 132 _ Xa.out (by rw [AZ.out]; kernel_rfl) (by rw [AZ.out]; rfl) AO.out ?_))
      exact bodyPost_ret (results_cell_row rfl _ _ w.heap.size 132 _ (0, 0) _ rfl (setRow_heap _ _ _ _ _ _ Xa.out) Tryd.underlying132 rfl (by rw [AZ.out]; kernel_rfl)) rfl ⟨rfl, chg_newer Ca.out (Chg.setRow (B := fun b => b = w.heap.size) wr rfl _) (fun g hg => by subst hg; exact Nat.le_refl _)⟩
set_option maxHeartbeats 800000 in
set_option maxRecDepth 20000 in
theorem EncHl2_at (x : Hl) (e : Int) (B : List (BitVec 8)) (w : World) (hx : x.counters.length = 10) (he : hlE x = e) (hB : hlR x = B) :
    Calls Tryd.prog 123 #[.agg (Hl.cells x).toArray] w fun r w' => ∃ u, r = .returned (.tuple #[u, .int .i64 e]) ∧ w'.ownsRow w.heap.size 5 1 u B.length (by8 B) ∧ Below w.heap.size w w' := by
  have ho : hlOk x = true := by unfold hlOk; rw [hx]; rfl
  unfold hlE at he
  unfold hlR at hB
  rw [ho] at he hB
  simp only [if_true] at he hB
  subst he
  have EN := Lib.hid (fun w => EncHl_at x B w hx hB)
  have SZ := Lib.hid (hl_size x hx)
  obtain ⟨cx, hcx⟩ : ∃ c, (Hl.cells x).toArray = c := ⟨_, rfl⟩
  rw [hcx] at EN SZ ⊢
  obtain ⟨W, hW⟩ : ∃ W, W = w.alloc (.cells cx 132) := ⟨_, rfl⟩
  have D := Lib.hid (show Below w.heap.size w W by rw [hW]; exact gr_alloc w _)
  have X := Lib.hid (show W.heap[w.heap.size]? = some (.cells cx 132 (0, 0)) by rw [hW]; exact heap_alloc_new w _)
  have HW := Lib.hid hW
  clear hW hcx hx hB ho
  go_enter Tryd.func123, Tryd.ntmps123
  go_upto_region 1 with (fail)
  first
    | rw [← HW.out]
    | (show Code.wp _ _ _ _ (w.alloc (.cells cx 132)); rw [← HW.out])
  go_wp2_with (first
    | (refine wpList_load_row rfl 132 (.tmp 1) rfl w.heap.size rfl 132 cx (0, 0) _ X.out Tryd.underlying132 rfl (by rw [SZ.out]; kernel_rfl) ?_)
    | (go_at_call 62; go_loud (refine (EN.out _).mono ?_; rintro r w3 ⟨u3, rfl, ho, hw⟩; have V3 := Lib.hid (own_base ho D.out.size); have D3 := Lib.hid (gr_tr D.out hw); clear ho hw)))
  go_ret2
  exact ⟨_, rfl, V3.out, D3.out⟩
set_option maxHeartbeats 3200000 in
set_option maxRecDepth 20000 in
theorem decoded_Hl (l : List (BitVec 8)) (bv : Value) (w : World) (y : Hl) (e : Int) (hb : BytesV w bv l) (hl : l.length ≤ 140737488355328) (hd : decP 512 hlRd hlOkB hlZ l = (y, e)) :
    Calls Tryd.prog 121 #[bv, .int .i64 512, .func (.func 122) #[] #[], .func (.func 123) #[] #[]] w fun r w' => r = .returned (.tuple #[.agg (Hl.cells y).toArray, .int .i64 e]) ∧ Below w.heap.size w w' := by
  obtain ⟨av, cv, rfl, hv0, hv1, hv2, hv3⟩ := id hb
  have hm : l.length ≤ 9223372036854775807 := by omega
  have BV := Lib.hid hb
  have HLL := Lib.hid hl
  obtain ⟨V, hV⟩ : ∃ V, V = w.alloc (.cells #[.int .u8 0, .int .u16 0, .int .u8 0, .int .u8 0, .int .u8 0, .int .u64 0, .int .u64 0, .int .u64 0, .int .u64 0, .int .u64 0, .int .u64 0, .int .u64 0, .int .u64 0, .int .u64 0, .int .u64 0] 132) := ⟨_, rfl⟩
  have DV := Lib.hid (show Below w.heap.size w V by rw [hV]; exact gr_alloc w _)
  have XV := Lib.hid (show V.heap[w.heap.size]? = some (.cells #[.int .u8 0, .int .u16 0, .int .u8 0, .int .u8 0, .int .u8 0, .int .u64 0, .int .u64 0, .int .u64 0, .int .u64 0, .int .u64 0, .int .u64 0, .int .u64 0, .int .u64 0, .int .u64 0, .int .u64 0] 132 (0, 0)) by rw [hV]; exact heap_alloc_new w _)
  have VS := Lib.hid (show w.heap.size < V.heap.size by rw [hV]; simp)
  have HV := Lib.hid hV
  have ZS := Lib.hid (show (Hl.cells hlZ).toArray = #[.int .u8 0, .int .u16 0, .int .u8 0, .int .u8 0, .int .u8 0, .int .u64 0, .int .u64 0, .int .u64 0, .int .u64 0, .int .u64 0, .int .u64 0, .int .u64 0, .int .u64 0, .int .u64 0, .int .u64 0] from rfl)
  clear hb hv0 hv1 hv2 hv3 hV hl
  unfold decP at hd
  by_cases p1 : l.length < 512
  · rw [if_pos p1] at hd
    cases hd
    rw [ZS.out]
    have d1 : decide ((l.length : Int) < 512) = true := decide_eq_true (by omega)
    have d1b : decide (l.length < 512) = true := decide_eq_true (by omega)
    clear p1
    go_enter Tryd.func121, Tryd.ntmps121
    go_upto_region 1 with (fail)
    rw [← HV.out]
    go_wp2_with (first
      | (refine wpList_load_row rfl 132 (.tmp 8) rfl w.heap.size rfl 132 #[.int .u8 0, .int .u16 0, .int .u8 0, .int .u8 0, .int .u8 0, .int .u64 0, .int .u64 0, .int .u64 0, .int .u64 0, .int .u64 0, .int .u64 0, .int .u64 0, .int .u64 0, .int .u64 0, .int .u64 0] (0, 0) _ XV.out Tryd.underlying132 rfl (by kernel_rfl) ?_)
      | (refine wpList_store_row rfl 132 (.tmp 8) (.tmp 18) rfl w.heap.size #[.int .u8 0, .int .u16 0, .int .u8 0, .int .u8 0, .int .u8 0, .int .u64 0, .int .u64 0, .int .u64 0, .int .u64 0, .int .u64 0, .int .u64 0, .int .u64 0, .int .u64 0, .int .u64 0, .int .u64 0] rfl rfl 132 _ XV.out (by kernel_rfl) rfl (by simp [Value.oneCell']) ?_))
    exact bodyPost_ret (results_row_tmp rfl _ _ w.heap.size 132 #[.int .u8 0, .int .u16 0, .int .u8 0, .int .u8 0, .int .u8 0, .int .u64 0, .int .u64 0, .int .u64 0, .int .u64 0, .int .u64 0, .int .u64 0, .int .u64 0, .int .u64 0, .int .u64 0, .int .u64 0] (0, 0) _ rfl (setRow_heap _ _ _ _ _ _ XV.out) Tryd.underlying132 rfl (by kernel_rfl)) rfl ⟨rfl, below_setRow DV.out (Nat.le_refl _) _⟩
  rw [if_neg p1] at hd
  have d1 : decide ((l.length : Int) < 512) = false := decide_eq_false (by omega)
  have d1b : decide (l.length < 512) = false := decide_eq_false (by omega)
  by_cases p2 : 512 < l.length
  · rw [if_pos p2] at hd
    cases hd
    rw [ZS.out]
    have d2 : decide (512 < (l.length : Int)) = true := decide_eq_true (by omega)
    have d2b : decide (512 < l.length) = true := decide_eq_true (by omega)
    clear p1 p2
    go_enter Tryd.func121, Tryd.ntmps121
    go_upto_region 1 with (fail)
    rw [← HV.out]
    go_wp2_with (first
      | (refine wpList_load_row rfl 132 (.tmp 8) rfl w.heap.size rfl 132 #[.int .u8 0, .int .u16 0, .int .u8 0, .int .u8 0, .int .u8 0, .int .u64 0, .int .u64 0, .int .u64 0, .int .u64 0, .int .u64 0, .int .u64 0, .int .u64 0, .int .u64 0, .int .u64 0, .int .u64 0] (0, 0) _ XV.out Tryd.underlying132 rfl (by kernel_rfl) ?_)
      | (refine wpList_store_row rfl 132 (.tmp 8) (.tmp 24) rfl w.heap.size #[.int .u8 0, .int .u16 0, .int .u8 0, .int .u8 0, .int .u8 0, .int .u64 0, .int .u64 0, .int .u64 0, .int .u64 0, .int .u64 0, .int .u64 0, .int .u64 0, .int .u64 0, .int .u64 0, .int .u64 0] rfl rfl 132 _ XV.out (by kernel_rfl) rfl (by simp [Value.oneCell']) ?_))
    exact bodyPost_ret (results_row_tmp rfl _ _ w.heap.size 132 #[.int .u8 0, .int .u16 0, .int .u8 0, .int .u8 0, .int .u8 0, .int .u64 0, .int .u64 0, .int .u64 0, .int .u64 0, .int .u64 0, .int .u64 0, .int .u64 0, .int .u64 0, .int .u64 0, .int .u64 0] (0, 0) _ rfl (setRow_heap _ _ _ _ _ _ XV.out) Tryd.underlying132 rfl (by kernel_rfl)) rfl ⟨rfl, below_setRow DV.out (Nat.le_refl _) _⟩
  rw [if_neg p2] at hd
  have d2 : decide (512 < (l.length : Int)) = false := decide_eq_false (by omega)
  have d2b : decide (512 < l.length) = false := decide_eq_false (by omega)
  have HL := Lib.hid (show l.length = 512 by omega)
  have HD := Lib.hid hd
  clear p1 p2 hd
  obtain ⟨x, hx⟩ : ∃ x, hlRd l = x := ⟨_, rfl⟩
  have HX := Lib.hid hx
  obtain ⟨cx, hcx⟩ : ∃ c, (Hl.cells x).toArray = c := ⟨_, rfl⟩
  have HCX := Lib.hid hcx
  have SZX := Lib.hid (show cx.size = 15 by rw [← hcx]; exact hl_size x (by rw [← hx]; exact hlRd_len l))
  have ONX := Lib.hid (show cx.all (·.oneCell') = true by rw [← hcx]; exact hl_one x)
  clear hx hcx
  obtain ⟨bo, hbo⟩ : ∃ b, hlOk x = b := ⟨_, rfl⟩
  have HO := Lib.hid hbo; clear hbo
  go_enter Tryd.func121, Tryd.ntmps121
  go_upto_region 1 with (fail)
  rw [← HV.out]
  go_upto_region 6 with (first
    | (go_at_call 149; go_loud (refine (NewReader_any _ l _ (BV.out.below DV.out) HLL.out).mono ?_; rintro r w1 ⟨p, v, rfl, hp, hr, hw⟩; have HP := Lib.hid hp; have R := Lib.hid hr; have D1 := Lib.hid (gr_tr DV.out hw); have DW := Lib.hid hw; clear hp hr hw))
    | (go_at_call 122; go_loud (refine (readHl_at p v l _ R.out HL.out).mono ?_; rw [HX.out, HCX.out]; rintro r w2 ⟨rfl, hc⟩; have D2 := Lib.hid (hc.fresh D1.out (fun k hk => by have h1 := HP.out; have h2 := VS.out; subst hk; omega)); have X2 := Lib.hid (hc.blk (blk_below XV.out DW.out) (fun hk => by have h1 := HP.out; have h2 := VS.out; subst hk; omega)); clear hc))
    | (refine wpList_store_new rfl 132 (.tmp 10) (.tmp 28) rfl cx 132 _ rfl rfl (by rw [SZX.out]; kernel_rfl) (by rw [SZX.out]; rfl) ONX.out ?_; intro w3 hh hw; have Y3 := Lib.hid hh; have D3 := Lib.hid (gr_tr D2.out hw); have X3 := Lib.hid (blk_below X2.out hw); clear hh hw))
  clear d1 d1b d2 d2b
  have B3 := Lib.hid (BV.out.below D3.out)
  cases bo
  · have ENC := fun w => EncHl2_at x 2 [] w (by rw [← HX.out]; exact hlRd_len l) (by unfold hlE; rw [HO.out]; rfl) (by unfold hlR; rw [HO.out]; rfl)
    rw [HCX.out] at ENC
    go_wp2_with (first
      | (refine wpList_load_row rfl 132 (.tmp 10) rfl w2.heap.size rfl 132 cx (0, 0) _ Y3.out Tryd.underlying132 rfl (by rw [SZX.out]; kernel_rfl) ?_)
      | (go_at_call 123; go_loud (refine (ENC _).mono ?_; rintro r w4 ⟨u, rfl, hu, hw⟩; have D4 := Lib.hid (gr_tr D3.out hw); have X4 := Lib.hid (blk_below X3.out hw); clear hu hw))
      | (refine wpList_load_row rfl 132 (.tmp 8) rfl w.heap.size rfl 132 #[.int .u8 0, .int .u16 0, .int .u8 0, .int .u8 0, .int .u8 0, .int .u64 0, .int .u64 0, .int .u64 0, .int .u64 0, .int .u64 0, .int .u64 0, .int .u64 0, .int .u64 0, .int .u64 0, .int .u64 0] (0, 0) _ X4.out Tryd.underlying132 rfl (by kernel_rfl) ?_)
      | (refine wpList_store_row rfl 132 (.tmp 8) (.tmp 43) rfl w.heap.size #[.int .u8 0, .int .u16 0, .int .u8 0, .int .u8 0, .int .u8 0, .int .u64 0, .int .u64 0, .int .u64 0, .int .u64 0, .int .u64 0, .int .u64 0, .int .u64 0, .int .u64 0, .int .u64 0, .int .u64 0] rfl rfl 132 _ X4.out (by kernel_rfl) rfl (by simp [Value.oneCell']) ?_))
    obtain ⟨e1, e2⟩ : y = hlZ ∧ e = 6 := by
      have h := HD.out
      unfold hlOkB at h
      rw [HX.out, HO.out] at h
      simp at h
      exact ⟨h.1.symm, h.2.symm⟩
    rw [e1, e2, ZS.out]
    exact bodyPost_ret (results_row_tmp rfl _ _ w.heap.size 132 #[.int .u8 0, .int .u16 0, .int .u8 0, .int .u8 0, .int .u8 0, .int .u64 0, .int .u64 0, .int .u64 0, .int .u64 0, .int .u64 0, .int .u64 0, .int .u64 0, .int .u64 0, .int .u64 0, .int .u64 0] (0, 0) _ rfl (setRow_heap _ _ _ _ _ _ X4.out) Tryd.underlying132 rfl (by kernel_rfl)) rfl ⟨rfl, below_setRow D4.out (Nat.le_refl _) _⟩
  have ENC := fun w => EncHl2_at x 0 (hlB x) w (by rw [← HX.out]; exact hlRd_len l) (by unfold hlE; rw [HO.out]; rfl) (by unfold hlR; rw [HO.out]; rfl)
  rw [HCX.out] at ENC
  obtain ⟨bq, hbq⟩ : ∃ b, (hlB x == l) = b := ⟨_, rfl⟩
  have HQ := Lib.hid hbq; clear hbq
  obtain ⟨NB, hNB⟩ : ∃ B, hlB x = B := ⟨_, rfl⟩
  rw [hNB] at ENC
  have HNB := Lib.hid hNB
  clear hNB
  cases bq
  · have HQN := Lib.hid (show (NB == l) = false by rw [← HNB.out]; exact HQ.out)
    go_wp2_with (first
      | (refine wpList_load_row rfl 132 (.tmp 10) rfl w2.heap.size rfl 132 cx (0, 0) _ Y3.out Tryd.underlying132 rfl (by rw [SZX.out]; kernel_rfl) ?_)
      | (go_at_call 123; go_loud (refine (ENC _).mono ?_; rintro r w4 ⟨u, rfl, hu, hw⟩; have U := Lib.hid (BytesV.of_own hu); have B4 := Lib.hid (B3.out.below hw); have D4 := Lib.hid (gr_tr D3.out hw); have X4 := Lib.hid (blk_below X3.out hw); clear hu hw))
      | (go_at_call 128; go_loud (refine (eqB_at _ _ _ _ _ _ U.out B4.out HQN.out).mono ?_; rintro r w5 ⟨rfl, rfl⟩))
      | (refine wpList_load_row rfl 132 (.tmp 8) rfl w.heap.size rfl 132 #[.int .u8 0, .int .u16 0, .int .u8 0, .int .u8 0, .int .u8 0, .int .u64 0, .int .u64 0, .int .u64 0, .int .u64 0, .int .u64 0, .int .u64 0, .int .u64 0, .int .u64 0, .int .u64 0, .int .u64 0] (0, 0) _ X4.out Tryd.underlying132 rfl (by kernel_rfl) ?_)
      | (refine wpList_store_row rfl 132 (.tmp 8) (.tmp 43) rfl w.heap.size #[.int .u8 0, .int .u16 0, .int .u8 0, .int .u8 0, .int .u8 0, .int .u64 0, .int .u64 0, .int .u64 0, .int .u64 0, .int .u64 0, .int .u64 0, .int .u64 0, .int .u64 0, .int .u64 0, .int .u64 0] rfl rfl 132 _ X4.out (by kernel_rfl) rfl (by simp [Value.oneCell']) ?_))
    obtain ⟨e1, e2⟩ : y = hlZ ∧ e = 6 := by
      have h := HD.out
      unfold hlOkB at h
      rw [HX.out, HO.out, HQ.out] at h
      simp at h
      exact ⟨h.1.symm, h.2.symm⟩
    rw [e1, e2, ZS.out]
    exact bodyPost_ret (results_row_tmp rfl _ _ w.heap.size 132 #[.int .u8 0, .int .u16 0, .int .u8 0, .int .u8 0, .int .u8 0, .int .u64 0, .int .u64 0, .int .u64 0, .int .u64 0, .int .u64 0, .int .u64 0, .int .u64 0, .int .u64 0, .int .u64 0, .int .u64 0] (0, 0) _ rfl (setRow_heap _ _ _ _ _ _ X4.out) Tryd.underlying132 rfl (by kernel_rfl)) rfl ⟨rfl, below_setRow D4.out (Nat.le_refl _) _⟩
  · have HQN := Lib.hid (show (NB == l) = true by rw [← HNB.out]; exact HQ.out)
    go_wp2_with (first
      | (refine wpList_load_row rfl 132 (.tmp 10) rfl w2.heap.size rfl 132 cx (0, 0) _ Y3.out Tryd.underlying132 rfl (by rw [SZX.out]; kernel_rfl) ?_)
      | (go_at_call 123; go_loud (refine (ENC _).mono ?_; rintro r w4 ⟨u, rfl, hu, hw⟩; have U := Lib.hid (BytesV.of_own hu); have B4 := Lib.hid (B3.out.below hw); have D4 := Lib.hid (gr_tr D3.out hw); have X4 := Lib.hid (blk_below X3.out hw); have Y4 := Lib.hid (blk_below Y3.out hw); clear hu hw))
      | (go_at_call 128; go_loud (refine (eqB_at _ _ _ _ _ _ U.out B4.out HQN.out).mono ?_; rintro r w5 ⟨rfl, rfl⟩))
      | (refine wpList_load_row rfl 132 (.tmp 10) rfl w2.heap.size rfl 132 cx (0, 0) _ Y4.out Tryd.underlying132 rfl (by rw [SZX.out]; kernel_rfl) ?_)
      | (refine wpList_store_row rfl 132 (.tmp 8) (.tmp 44) rfl w.heap.size cx rfl rfl 132 _ X4.out (by rw [SZX.out]; kernel_rfl) (by rw [SZX.out]; rfl) ONX.out ?_))
    obtain ⟨e1, e2⟩ : y = x ∧ e = 0 := by
      have h := HD.out
      unfold hlOkB at h
      rw [HX.out, HO.out, HQ.out] at h
      simp at h
      exact ⟨h.1.symm, h.2.symm⟩
    rw [e1, e2, HCX.out]
    exact bodyPost_ret (results_row_tmp rfl _ _ w.heap.size 132 cx (0, 0) _ rfl (setRow_heap _ _ _ _ _ _ X4.out) Tryd.underlying132 rfl (by rw [SZX.out]; kernel_rfl)) rfl ⟨rfl, below_setRow D4.out (Nat.le_refl _) _⟩
set_option maxHeartbeats 1600000 in
set_option maxRecDepth 20000 in
theorem Decode_Hl (l : List (BitVec 8)) (bv : Value) (w : World) (y : Hl) (e : Int) (hb : BytesV w bv l) (hl : l.length ≤ 140737488355328) (hd : decP 512 hlRd hlOkB hlZ l = (y, e)) :
    Calls Tryd.prog 60 #[bv] w fun r w' => r = .returned (.tuple #[.agg (Hl.cells y).toArray, .int .i64 e]) ∧ Below w.heap.size w w' := by
  have BV := Lib.hid hb; have HL := Lib.hid hl; have HD := Lib.hid hd
  obtain ⟨V, hV⟩ : ∃ V, V = w.alloc (.cells #[.int .u8 0, .int .u16 0, .int .u8 0, .int .u8 0, .int .u8 0, .int .u64 0, .int .u64 0, .int .u64 0, .int .u64 0, .int .u64 0, .int .u64 0, .int .u64 0, .int .u64 0, .int .u64 0, .int .u64 0] 132) := ⟨_, rfl⟩
  have DV := Lib.hid (show Below w.heap.size w V by rw [hV]; exact gr_alloc w _)
  have XV := Lib.hid (show V.heap[w.heap.size]? = some (.cells #[.int .u8 0, .int .u16 0, .int .u8 0, .int .u8 0, .int .u8 0, .int .u64 0, .int .u64 0, .int .u64 0, .int .u64 0, .int .u64 0, .int .u64 0, .int .u64 0, .int .u64 0, .int .u64 0, .int .u64 0] 132 (0, 0)) by rw [hV]; exact heap_alloc_new w _)
  have HV := Lib.hid hV
  obtain ⟨cy, hcy⟩ : ∃ c, (Hl.cells y).toArray = c := ⟨_, rfl⟩
  have HCY := Lib.hid hcy
  have SZY := Lib.hid (show cy.size = 15 by rw [← hcy]; exact hl_size y (hl_dec_len hd))
  have ONY := Lib.hid (show cy.all (·.oneCell') = true by rw [← hcy]; exact hl_one y)
  rw [hcy]
  clear hb hl hd hV hcy
  go_enter Tryd.func60, Tryd.ntmps60
  go_upto_region 1 with (fail)
  rw [← HV.out]
  go_wp2_with (first
    | (go_at_call 121; go_loud (refine (decoded_Hl l _ _ y e (BV.out.below DV.out) HL.out HD.out).mono ?_; rw [HCY.out]; rintro r w3 ⟨rfl, hw⟩; have D3 := Lib.hid (gr_tr DV.out hw); have X3 := Lib.hid (blk_below XV.out hw); clear hw))
    | (refine wpList_store_row rfl 132 (.tmp 2) (.tmp 6) rfl w.heap.size cy rfl rfl 132 _ X3.out (by rw [SZY.out]; kernel_rfl) (by rw [SZY.out]; rfl) ONY.out ?_))
  exact bodyPost_ret (results_row_tmp rfl _ _ w.heap.size 132 cy (0, 0) _ rfl (setRow_heap _ _ _ _ _ _ X3.out) Tryd.underlying132 rfl (by rw [SZY.out]; kernel_rfl)) rfl ⟨rfl, below_setRow D3.out (Nat.le_refl _) _⟩
end Go.Proofs.YthnnopjakpjoeaaDoor
namespace Go.Proofs.YthnnopjakpjoeaaDoor
open Go.RowKit Lg
set_option linter.unusedVariables false
set_option linter.unusedSimpArgs false
theorem byt_lt2H {w : World} {v : Value} {l : List (BitVec 8)} (h : BytesV w v l) (hl : 0 < l.length) : ∀ g o n c, v = .slice (some ⟨g, o, none⟩) n c → g < w.heap.size := by
  intro g o n c e
  obtain ⟨a, c', e2, -, -, -, hr⟩ := h
  rw [e] at e2
  injection e2 with e3 e4 e5
  subst e3
  exact hr.lt (by intro hn; have h9 := congrArg List.length hn; rw [by8_length, List.length_nil] at h9; omega)
theorem Lay1H (l : List (BitVec 8)) (a : Nat) (y : BitVec 8) (h : a < l.length) : Lay.lay l a [y] = l.set a y := by
  unfold Lay.lay
  rw [List.length_singleton, List.set_eq_take_append_cons_drop, if_pos h]; rfl
theorem le1H (y : BitVec 8) : Wire.putB (y.setWidth 64) 1 = [y] := by
  rw [(fit8 y).2]
  show [((y.setWidth 64) >>> (8 * 0)).setWidth 8] = [y]
  simp
namespace Lg
theorem num_oneH (l : List (BitVec 8)) (a : Nat) (y : BitVec 8) (h : l[a]? = some y) : num l a 1 = y.setWidth 64 := by
  have hc : cut l a 1 = [y] := by
    obtain ⟨h1, rfl⟩ := List.getElem?_eq_some_iff.1 h
    unfold cut
    rw [List.drop_eq_getElem_cons h1]; rfl
  unfold num
  rw [hc, Wire.get_cons]
  show (0#64 <<< 8 ||| y.setWidth 64) = _
  simp
end Lg
theorem OwnN.chgH {N : Nat} {B : Nat → Prop} {w w' : World} {base g cap : Nat} {l : List (BitVec 8)} (h : OwnN N w base g cap l) (c : Chg B w w') (hn : ¬ B g) : OwnN N w' base g cap l := own_chg h c (fun k hk => by cases hk; exact hn)
theorem uw16H (x : BitVec 16) : uv (x.setWidth 64) = uv x := by
  unfold uv
  rw [BitVec.toNat_setWidth, Nat.mod_eq_of_lt (by have := x.isLt; omega)]
namespace Lg
def hlHd2 (x : Hl) : List (WF × Bool) := [((x.warning.setWidth 64, 1), true), ((x.temperature.setWidth 64, 2), true), ((x.spare.setWidth 64, 1), true), ((x.threshold.setWidth 64, 1), true), ((x.used.setWidth 64, 1), true), ((0#64, 8), false), ((0#64, 8), false), ((0#64, 8), false), ((0#64, 2), false)]
def hlTl2 (cs : List (BitVec 64)) : List (WF × Bool) := cs.flatMap fun c => [((c, 8), true), ((0#64, 8), false)]
theorem hlTl2_map (cs : List (BitVec 64)) : (hlTl2 cs).map (·.1) = hlTl cs := by
  unfold hlTl2 hlTl
  rw [List.map_flatMap]; rfl
def hlPt (cs : List (BitVec 64)) : List (Nat × List (BitVec 8)) := plc 32 (hlTl2 cs)
theorem hlPt_more (a : Nat) (cs : List (BitVec 64)) (c : BitVec 64) : plc a (hlTl2 (cs ++ [c])) = plc a (hlTl2 cs) ++ [(a + 16 * cs.length, Wire.putB c 8)] := by
  induction cs generalizing a with
  | nil => rfl
  | cons d cs ih =>
    have e : ∀ ds, plc a (hlTl2 (d :: ds)) = (a, Wire.putB d 8) :: plc (a + 16) (hlTl2 ds) := fun ds => by
      have h : hlTl2 (d :: ds) = ((d, 8), true) :: ((0#64, 8), false) :: hlTl2 ds := by unfold hlTl2; rw [List.flatMap_cons]; rfl
      rw [h]; rfl
    rw [List.cons_append, e, e, ih, List.cons_append, List.length_cons, show a + 16 + 16 * cs.length = a + 16 * (cs.length + 1) by omega]
theorem hl_lays (x : Hl) (h : x.counters.length = 10) : Lay.lays (Lay.lays (List.replicate 512 0#8) (plc 0 (hlHd2 x))) (hlPt x.counters) = hlB x := by
  have hf := hl_fit x
  have := lays_page (hlHd2 x ++ hlTl2 x.counters) 512 (by
    intro f hf2
    have hm : f.1 ∈ hlFl x := by
      have h2 : f.1 ∈ (hlHd2 x ++ hlTl2 x.counters).map (·.1) := List.mem_map_of_mem hf2
      rw [List.map_append, hlTl2_map] at h2
      exact h2
    refine ⟨hf _ hm, fun hb => ?_⟩
    rcases List.mem_append.1 hf2 with h3 | h3
    · unfold hlHd2 at h3
      simp only [List.mem_cons, List.not_mem_nil, or_false] at h3
      rcases h3 with rfl | rfl | rfl | rfl | rfl | rfl | rfl | rfl | rfl <;> first | rfl | exact absurd hb (by simp)
    · unfold hlTl2 at h3
      obtain ⟨c, -, hc⟩ := List.mem_flatMap.1 h3
      simp at hc
      rcases hc with rfl | rfl
      · exact absurd hb (by simp)
      · rfl) (by
    rw [List.map_append, hlTl2_map, sz_append, hlTl_sz, h]; show 32 + 16 * 10 ≤ 512; decide)
  rw [List.map_append, hlTl2_map] at this
  rw [← Lay.lays_append]
  exact this
end Lg
set_option maxHeartbeats 3200000 in
set_option maxRecDepth 20000 in
theorem rEncHl_at (x : Hl) (B : List (BitVec 8)) (w : World) (hx : x.counters.length = 10) (hB : hlB x = B) :
    Calls Tryd.prog 63 #[.agg (Hl.cells x).toArray] w fun r w' => ∃ u, r = .returned u ∧ BytesV w' u B ∧ Below w.heap.size w w' := by
  have HB := Lib.hid ((hl_lays x hx).trans hB)
  have HX := Lib.hid hx
  have SZ := Lib.hid (hl_size x hx)
  obtain ⟨cx, hcx⟩ : ∃ c, (Hl.cells x).toArray = c := ⟨_, rfl⟩
  rw [hcx] at SZ ⊢
  obtain ⟨W, hW⟩ : ∃ W, W = w.alloc (.cells cx 132) := ⟨_, rfl⟩
  have D := Lib.hid (show Below w.heap.size w W by rw [hW]; exact gr_alloc w _)
  have X := Lib.hid (show W.heap[w.heap.size]? = some (.cells cx 132 (0, 0)) by rw [hW]; exact heap_alloc_new w _)
  have hce : ∀ (i : Nat) (v : Value), (Hl.cells x)[i]? = some v → cx[i]? = some v := fun i v h => by rw [← hcx, List.getElem?_toArray]; exact h
  have hcl := hl_cells x
  have E0 := Lib.hid (show cx[0]? = some (.int .u8 (uv x.warning)) from hce 0 _ (by rw [hcl]; rfl))
  have E1 := Lib.hid (show cx[1]? = some (.int .u16 (uv x.temperature)) from hce 1 _ (by rw [hcl]; rfl))
  have E2 := Lib.hid (show cx[2]? = some (.int .u8 (uv x.spare)) from hce 2 _ (by rw [hcl]; rfl))
  have E3 := Lib.hid (show cx[3]? = some (.int .u8 (uv x.threshold)) from hce 3 _ (by rw [hcl]; rfl))
  have E4 := Lib.hid (show cx[4]? = some (.int .u8 (uv x.used)) from hce 4 _ (by rw [hcl]; rfl))
  have EC := Lib.hid (fun (k : Nat) (c : BitVec 64) (h : x.counters[k]? = some c) => show cx[5 + k]? = some (.int .u64 (uv c)) from hce _ _ (by
    rw [hcl, List.getElem?_append_right (by simp)]
    show (wd x.counters)[5 + k - 5]? = _
    unfold wd
    rw [show 5 + k - 5 = k by omega, List.getElem?_map, h]; rfl))
  have LT := Lib.hid (show w.heap.size < W.heap.size by rw [hW, World.size_alloc]; omega)
  have HW := Lib.hid hW
  have x0 := (cell_of_row _ _ 0 _ _ _ X.out).trans E0.out
  clear hW hcx hce hcl hx hB
  go_enter Tryd.func63, Tryd.ntmps63
  go_upto_region 1 with (fail)
  first
    | rw [← HW.out]
    | (show Code.wp _ _ _ _ (w.alloc (.cells cx 132)); rw [← HW.out])
  go_upto_region 2 with (refine make_law bytesOk rfl _ _ rfl W.heap.size .i64 .i64 512 512 512 rfl rfl rfl rfl (by omega) (by omega) (Nat.le_refl _) ?_; intro w2 hown hgrow; have O := Lib.hid (show OwnN 512 w2 W.heap.size W.heap.size 512 (List.replicate 512 0#8) by have h := hown; rw [by8_made] at h; exact h); have B2 := Lib.hid ((Below.refl W.heap.size W).grown hgrow (Nat.le_refl _) (by intro k hk; cases hk)); have X2 := Lib.hid (blk_below X.out B2.out); clear hown hgrow)
  have a0 : w2.cell? ⟨w.heap.size, 0, none⟩ = some (.int .u8 (uv x.warning)) := (cell_of_row _ _ 0 _ _ _ X2.out).trans E0.out
  have g0 : w2.cell? ⟨W.heap.size, 0, none⟩ = some (.int .u8 0) := by rw [World.ownsRow.cellAt O.out 0 (by decide), by8_get]; rfl
  have f0 := World.ownsRow.frozenAt O.out 0
  clear x0
  go_upto_region 3 with (fail)
  obtain ⟨w3, hw3⟩ : ∃ w3, w3 = w2.setCell ⟨W.heap.size, 0, none⟩ (.int .u8 (uv x.warning)) := ⟨_, rfl⟩
  have c3 : Chg (fun b => b = W.heap.size) w2 w3 := by rw [hw3]; exact Chg.setCell (B := fun b => b = W.heap.size) (p := ⟨W.heap.size, 0, none⟩) _ rfl _
  have O3 := Lib.hid (show OwnN 512 w3 W.heap.size W.heap.size 512 ((List.replicate 512 0#8).set 0 x.warning) by rw [hw3]; exact O.out.set 0 x.warning)
  have X3 := Lib.hid (c3.blk X2.out (by have := LT.out; omega))
  have B3 := Lib.hid (B2.out.trans (c3.below (fun q hq => by subst hq; exact Nat.le_refl _) B2.out.size))
  rw [← hw3]
  clear hw3 c3 a0 g0 f0
  have x1 : w3.cell? ⟨w.heap.size, 1, none⟩ = some (.int .u16 (uv x.temperature)) := (cell_of_row _ _ 1 _ _ _ X3.out).trans E1.out
  have E16 := Lib.hid (uw16H x.temperature).symm
  go_upto_region 4 with (go_at_call 80; go_loud (rw [E16.out]; refine (rput23 512 W.heap.size 512 W.heap.size _ 1 2 (x.temperature.setWidth 64) _ O3.out (by decide) (by decide) (by decide)).mono ?_; rintro r w4 ⟨rfl, ho, hc⟩; have O4 := Lib.hid ho; have X4 := Lib.hid (hc.blk X3.out (by have := LT.out; omega)); have B4 := Lib.hid (B3.out.trans (hc.below (fun q hq => by subst hq; exact Nat.le_refl _) B3.out.size)); clear ho hc))
  clear x1
  have q2 : ∀ y : KeepT (fun b => b = W.heap.size) w4, y.val.cell? ⟨w.heap.size, 2, none⟩ = some (.int .u8 (uv x.spare)) := fun y => y.cell ((cell_of_row _ _ 2 _ _ _ X4.out).trans E2.out) (by have := LT.out; omega)
  have q3 : ∀ y : KeepT (fun b => b = W.heap.size) w4, y.val.cell? ⟨w.heap.size, 3, none⟩ = some (.int .u8 (uv x.threshold)) := fun y => y.cell ((cell_of_row _ _ 3 _ _ _ X4.out).trans E3.out) (by have := LT.out; omega)
  have q4 : ∀ y : KeepT (fun b => b = W.heap.size) w4, y.val.cell? ⟨w.heap.size, 4, none⟩ = some (.int .u8 (uv x.used)) := fun y => y.cell ((cell_of_row _ _ 4 _ _ _ X4.out).trans E4.out) (by have := LT.out; omega)
  obtain ⟨L4, hL4⟩ : ∃ L, Lay.lay ((List.replicate 512 0#8).set 0 x.warning) 1 (Wire.le (x.temperature.setWidth 64) 2) = L := ⟨_, rfl⟩
  have HL4 := Lib.hid hL4
  rw [hL4] at O4
  clear hL4
  refine wp_region_planW (fun b => b = W.heap.size) [(true, 0), (true, 1), (true, 2), (true, 3), (true, 4), (true, 5), (true, 6), (true, 7), (true, 8), (true, 9), (false, 10), (true, 11), (false, 12), (true, 13), (false, 14)] (by kernel_rfl) (by kernel_rfl) (by intro c a d v w h; cases d <;> exact h) ?_
  intro V1 K1 C1
  repeat (refine wpS_firm rfl (fun K hK => ?_); simp only [Keep]; go_simp; refine hK _ ?_; clear hK K)
  have OO1 := Lib.hid (O4.out.below C1.out)
  have CC1 := Lib.hid (Chg.of_below (B := fun b => b = W.heap.size) C1.out)
  refine wpS_chain rfl ?_
  obtain ⟨z, hz⟩ : ∃ y, (L4)[3]? = some y := ⟨_, List.getElem?_eq_getElem (by rw [OO1.out.len]; decide)⟩
  have g8 : V1.cell? ⟨W.heap.size, 3, none⟩ = some (.int .u8 (uv z)) := by rw [World.ownsRow.cellAt OO1.out 3 (by decide), by8_get, hz]; rfl
  have f8 := World.ownsRow.frozenAt OO1.out 3
  clear hz
  go_wp2
  have OO2 := Lib.hid (OO1.out.set 3 x.spare)
  have K2 := Lib.hid (K1.out.put (p := ⟨W.heap.size, 3, none⟩) rfl (.int .u8 (uv x.spare)))
  have CC2 := Lib.hid (CC1.out.trans (Chg.setCell (B := fun b => b = W.heap.size) (p := ⟨W.heap.size, 3, none⟩) V1 rfl (.int .u8 (uv x.spare))))
  obtain ⟨V2, hV⟩ : ∃ V, V1.setCell ⟨W.heap.size, 3, none⟩ (.int .u8 (uv x.spare)) = V := ⟨_, rfl⟩
  rw [hV] at OO2 K2 CC2 ⊢
  clear g8 f8 hV
  refine ⟨K2.out, ?_⟩
  repeat (refine wpS_firm rfl (fun K hK => ?_); simp only [Keep]; go_simp; refine hK _ ?_; clear hK K)
  refine wpS_chain rfl ?_
  obtain ⟨z, hz⟩ : ∃ y, ((L4).set 3 x.spare)[4]? = some y := ⟨_, List.getElem?_eq_getElem (by rw [OO2.out.len]; decide)⟩
  have g8 : V2.cell? ⟨W.heap.size, 4, none⟩ = some (.int .u8 (uv z)) := by rw [World.ownsRow.cellAt OO2.out 4 (by decide), by8_get, hz]; rfl
  have f8 := World.ownsRow.frozenAt OO2.out 4
  clear hz
  go_wp2
  have OO3 := Lib.hid (OO2.out.set 4 x.threshold)
  have K3 := Lib.hid (K2.out.put (p := ⟨W.heap.size, 4, none⟩) rfl (.int .u8 (uv x.threshold)))
  have CC3 := Lib.hid (CC2.out.trans (Chg.setCell (B := fun b => b = W.heap.size) (p := ⟨W.heap.size, 4, none⟩) V2 rfl (.int .u8 (uv x.threshold))))
  obtain ⟨V3, hV⟩ : ∃ V, V2.setCell ⟨W.heap.size, 4, none⟩ (.int .u8 (uv x.threshold)) = V := ⟨_, rfl⟩
  rw [hV] at OO3 K3 CC3 ⊢
  clear g8 f8 hV
  refine ⟨K3.out, ?_⟩
  repeat (refine wpS_firm rfl (fun K hK => ?_); simp only [Keep]; go_simp; refine hK _ ?_; clear hK K)
  refine wpS_chain rfl ?_
  obtain ⟨z, hz⟩ : ∃ y, (((L4).set 3 x.spare).set 4 x.threshold)[5]? = some y := ⟨_, List.getElem?_eq_getElem (by rw [OO3.out.len]; decide)⟩
  have g8 : V3.cell? ⟨W.heap.size, 5, none⟩ = some (.int .u8 (uv z)) := by rw [World.ownsRow.cellAt OO3.out 5 (by decide), by8_get, hz]; rfl
  have f8 := World.ownsRow.frozenAt OO3.out 5
  clear hz
  go_wp2
  have OO4 := Lib.hid (OO3.out.set 5 x.used)
  have K4 := Lib.hid (K3.out.put (p := ⟨W.heap.size, 5, none⟩) rfl (.int .u8 (uv x.used)))
  have CC4 := Lib.hid (CC3.out.trans (Chg.setCell (B := fun b => b = W.heap.size) (p := ⟨W.heap.size, 5, none⟩) V3 rfl (.int .u8 (uv x.used))))
  obtain ⟨V4, hV⟩ : ∃ V, V3.setCell ⟨W.heap.size, 5, none⟩ (.int .u8 (uv x.used)) = V := ⟨_, rfl⟩
  rw [hV] at OO4 K4 CC4 ⊢
  clear g8 f8 hV
  refine ⟨K4.out, ?_⟩
  repeat (refine wpS_firm rfl (fun K hK => ?_); simp only [Keep]; go_simp; refine hK _ ?_; clear hK K)
  unfold wpS
  clear q2 q3 q4
  have X5 := Lib.hid (CC4.out.blk X4.out (by have := LT.out; omega))
  have B5 := Lib.hid (B4.out.trans (CC4.out.below (fun q hq => by subst hq; exact Nat.le_refl _) B4.out.size))
  have O5 := Lib.hid (show OwnN 512 V4 W.heap.size W.heap.size 512 (Lay.lays (List.replicate 512 0#8) (plc 0 (hlHd2 x))) by
    have hq : ((L4.set 3 x.spare).set 4 x.threshold).set 5 x.used = Lay.lays (List.replicate 512 0#8) (plc 0 (hlHd2 x)) := by
      rw [← HL4.out]
      show _ = Lay.lays (List.replicate 512 0#8) [(0, Wire.putB (x.warning.setWidth 64) 1), (1, Wire.putB (x.temperature.setWidth 64) 2), (3, Wire.putB (x.spare.setWidth 64) 1), (4, Wire.putB (x.threshold.setWidth 64) 1), (5, Wire.putB (x.used.setWidth 64) 1)]
      simp only [Lay.lays, List.foldl_cons, List.foldl_nil]
      rw [le1H, le1H, le1H, le1H, (fit16 x.temperature).2]
      have n0 : (List.replicate 512 0#8).length = 512 := List.length_replicate
      have n1 : ((List.replicate 512 0#8).set 0 x.warning).length = 512 := by rw [List.length_set, n0]
      have n2 : (Lay.lay ((List.replicate 512 0#8).set 0 x.warning) 1 (Wire.le (x.temperature.setWidth 64) 2)).length = 512 := by rw [Lay.lay_len (by rw [n1, Wire.le_len]; decide), n1]
      rw [Lay1H _ 0 _ (by rw [n0]; decide), Lay1H _ 3 _ (by rw [n2]; decide), Lay1H _ 4 _ (by rw [List.length_set, n2]; decide), Lay1H _ 5 _ (by rw [List.length_set, List.length_set, n2]; decide)]
    rw [← hq]; exact OO4.out)
  clear HL4
  obtain ⟨L5, hL5⟩ : ∃ L, Lay.lays (List.replicate 512 0#8) (plc 0 (hlHd2 x)) = L := ⟨_, rfl⟩
  rw [hL5] at O5 HB
  clear hL5
  go_upto_region 6 with (fail)
  go_loopw [4] (fun i wr => ∃ k : Nat, k ≤ 10 ∧ i = .int .i64 k ∧ OwnN 512 wr W.heap.size W.heap.size 512 (Lay.lays L5 (hlPt (x.counters.take k))) ∧ wr.heap[w.heap.size]? = some (.cells cx 132 (0, 0)) ∧ Below W.heap.size W wr) (fun i _ => 10 - (intOf i).toNat)
  case atStart => exact ⟨0, by omega, rfl, O5.out, X5.out, B5.out⟩
  case round =>
    obtain ⟨k, hk, rfl, ho, hxx, hb⟩ := hrel
    have O6 := Lib.hid ho; have X6 := Lib.hid hxx; have B6 := Lib.hid hb; clear ho hxx hb
    by_cases hlt : k < 10
    · obtain ⟨c, hc⟩ : ∃ c, x.counters[k]? = some c := ⟨_, List.getElem?_eq_getElem (by rw [HX.out]; exact hlt)⟩
      have cc : wr.cell? ⟨w.heap.size, 5 + k, none⟩ = some (.int .u64 (uv c)) := (cell_of_row _ _ _ _ _ _ X6.out).trans (EC.out k c hc)
      have HS := Lib.hid (show Lay.lay (Lay.lays L5 (hlPt (x.counters.take k))) (32 + 16 * k) (Wire.le c 8) = Lay.lays L5 (hlPt (x.counters.take (k + 1))) by
        obtain ⟨h5, rfl⟩ := List.getElem?_eq_some_iff.1 hc
        rw [List.take_succ_eq_append_getElem h5]
        show _ = Lay.lays L5 (plc 32 (hlTl2 (x.counters.take k ++ [x.counters[k]])))
        rw [hlPt_more, Lay.lays_snoc, List.length_take, Nat.min_eq_left (by omega), (fit64 _).2]; rfl)
      have hk0 : (0 : Int) ≤ (k : Int) := by omega
      have hk1 : (k : Int) < 10 := by omega
      clear hc
      go_wp2_with (go_at_call 80; go_loud (refine (rput23 512 W.heap.size 512 W.heap.size _ (32 + 16 * k) 8 c _ O6.out (by decide) (by omega) (by decide)).mono ?_; rintro r w4 ⟨rfl, ho, hc⟩; have O7 := Lib.hid ho; have X7 := Lib.hid (hc.blk X6.out (by have := LT.out; omega)); have B7 := Lib.hid (B6.out.trans (hc.below (fun q hq => by subst hq; exact Nat.le_refl _) B6.out.size)); clear ho hc))
      go_roundw
      case rel => exact ⟨k + 1, by omega, by go_num, by rw [← HS.out]; exact O7.out, X7.out, B7.out⟩
      case measure => simp [intOf]; omega
    · obtain rfl : k = 10 := by omega
      have e10 : x.counters.take 10 = x.counters := List.take_of_length_le (by rw [HX.out]; decide)
      have OB := Lib.hid (show OwnN 512 wr W.heap.size W.heap.size 512 B by rw [← HB.out]; have h := O6.out; rwa [e10] at h)
      clear e10
      go_wp2
      go_ret
      exact ⟨_, rfl, OB.out.bytes, gr_tr D.out B6.out⟩
namespace Lg
/-- What the reference asks. -/
def hlFine (l : List (BitVec 8)) (k : Nat) : Bool := (allZ (cut l 6 26) && allZ (l.drop 192)) && (List.range k).all (fun i => allZ (cut l (40 + 16 * i) 8))
theorem hlFine_more (l : List (BitVec 8)) (k : Nat) : hlFine l (k + 1) = (hlFine l k && allZ (cut l (40 + 16 * k) 8)) := by
  unfold hlFine
  rw [List.range_succ, List.all_append, List.all_cons, List.all_nil, Bool.and_true, Bool.and_assoc, Bool.and_assoc, Bool.and_assoc]
theorem allZ_two (l : List (BitVec 8)) (a m n : Nat) : allZ (cut l a (m + n)) = (allZ (cut l a m) && allZ (cut l (a + m) n)) := by
  unfold cut allZ
  rw [List.take_add, List.all_append, List.drop_drop]
theorem hl_same (l : List (BitVec 8)) (h : l.length = 512) : hlOkB l = hlFine l 10 := by
  have e1 : hlOk (hlRd l) = true := by unfold hlOk; rw [hlRd_len]; rfl
  unfold hlOkB hlFine
  rw [e1, Bool.true_and, hl_ok l h, cut_all l 192 320 h.symm, allZ_two l 6 8 18, allZ_two l 14 8 10, allZ_two l 22 8 2]
  unfold hlRes
  simp only [resOk, List.cons_append, List.nil_append, Bool.true_or, Bool.false_or, Bool.true_and, Bool.and_true, List.drop_drop, ← cut.eq_1]
  simp only [show List.range 10 = [0, 1, 2, 3, 4, 5, 6, 7, 8, 9] from rfl, List.all_cons, List.all_nil, Nat.reduceAdd, Nat.reduceMul, Bool.and_true]
  ac_rfl
end Lg
set_option maxHeartbeats 6400000 in
set_option maxRecDepth 20000 in
theorem rDecHl_at (l : List (BitVec 8)) (bv : Value) (w : World) (y : Hl) (e : Int) (hb : BytesV w bv l) (hl : l.length ≤ 5000) (hd : decP 512 hlRd (fun l => hlFine l 10) hlZ l = (y, e)) :
    Calls Tryd.prog 61 #[bv] w fun r w' => r = .returned (.tuple #[.agg (Hl.cells y).toArray, .int .i64 e]) ∧ Below w.heap.size w w' := by
  have BV := Lib.hid hb
  obtain ⟨V, hV⟩ : ∃ V, V = w.alloc (.cells #[.int .u8 0, .int .u16 0, .int .u8 0, .int .u8 0, .int .u8 0, .int .u64 0, .int .u64 0, .int .u64 0, .int .u64 0, .int .u64 0, .int .u64 0, .int .u64 0, .int .u64 0, .int .u64 0, .int .u64 0] 132) := ⟨_, rfl⟩
  have DV := Lib.hid (show Below w.heap.size w V by rw [hV]; exact gr_alloc w _)
  have XV := Lib.hid (show V.heap[w.heap.size]? = some (.cells #[.int .u8 0, .int .u16 0, .int .u8 0, .int .u8 0, .int .u8 0, .int .u64 0, .int .u64 0, .int .u64 0, .int .u64 0, .int .u64 0, .int .u64 0, .int .u64 0, .int .u64 0, .int .u64 0, .int .u64 0] 132 (0, 0)) by rw [hV]; exact heap_alloc_new w _)
  have VS := Lib.hid (show w.heap.size < V.heap.size by rw [hV]; simp)
  have HV := Lib.hid hV
  have ZS := Lib.hid (show (Hl.cells hlZ).toArray = #[.int .u8 0, .int .u16 0, .int .u8 0, .int .u8 0, .int .u8 0, .int .u64 0, .int .u64 0, .int .u64 0, .int .u64 0, .int .u64 0, .int .u64 0, .int .u64 0, .int .u64 0, .int .u64 0, .int .u64 0] from rfl)
  clear hV
  unfold decP at hd
  by_cases p1 : l.length < 512
  · rw [if_pos p1] at hd
    cases hd
    rw [ZS.out]
    have HE := Lib.hid (show chkE l 512 = 4 by unfold chkE; rw [if_pos p1])
    clear p1
    go_enter Tryd.func61, Tryd.ntmps61
    go_upto_region 1 with (fail)
    rw [← HV.out]
    go_wp2_with (first
      | (go_at_call 105; go_loud (refine (check23 _ l 512 512 4 _ rfl (BV.out.below DV.out) (HE.out)).mono ?_; rintro r w1 ⟨rfl, rfl⟩))
      | (refine wpList_store_row rfl 132 (.tmp 2) (.tmp 12) rfl w.heap.size #[.int .u8 0, .int .u16 0, .int .u8 0, .int .u8 0, .int .u8 0, .int .u64 0, .int .u64 0, .int .u64 0, .int .u64 0, .int .u64 0, .int .u64 0, .int .u64 0, .int .u64 0, .int .u64 0, .int .u64 0] rfl rfl 132 _ XV.out (by kernel_rfl) rfl (by simp [Value.oneCell']) ?_))
    exact bodyPost_ret (results_row_tmp rfl _ _ w.heap.size 132 #[.int .u8 0, .int .u16 0, .int .u8 0, .int .u8 0, .int .u8 0, .int .u64 0, .int .u64 0, .int .u64 0, .int .u64 0, .int .u64 0, .int .u64 0, .int .u64 0, .int .u64 0, .int .u64 0, .int .u64 0] (0, 0) _ rfl (setRow_heap _ _ _ _ _ _ XV.out) Tryd.underlying132 rfl (by kernel_rfl)) rfl ⟨rfl, below_setRow DV.out (Nat.le_refl _) _⟩
  rw [if_neg p1] at hd
  by_cases p2 : 512 < l.length
  · rw [if_pos p2] at hd
    cases hd
    rw [ZS.out]
    have HE := Lib.hid (show chkE l 512 = 5 by unfold chkE; rw [if_neg p1, if_pos p2])
    clear p1 p2
    go_enter Tryd.func61, Tryd.ntmps61
    go_upto_region 1 with (fail)
    rw [← HV.out]
    go_wp2_with (first
      | (go_at_call 105; go_loud (refine (check23 _ l 512 512 5 _ rfl (BV.out.below DV.out) (HE.out)).mono ?_; rintro r w1 ⟨rfl, rfl⟩))
      | (refine wpList_store_row rfl 132 (.tmp 2) (.tmp 12) rfl w.heap.size #[.int .u8 0, .int .u16 0, .int .u8 0, .int .u8 0, .int .u8 0, .int .u64 0, .int .u64 0, .int .u64 0, .int .u64 0, .int .u64 0, .int .u64 0, .int .u64 0, .int .u64 0, .int .u64 0, .int .u64 0] rfl rfl 132 _ XV.out (by kernel_rfl) rfl (by simp [Value.oneCell']) ?_))
    exact bodyPost_ret (results_row_tmp rfl _ _ w.heap.size 132 #[.int .u8 0, .int .u16 0, .int .u8 0, .int .u8 0, .int .u8 0, .int .u64 0, .int .u64 0, .int .u64 0, .int .u64 0, .int .u64 0, .int .u64 0, .int .u64 0, .int .u64 0, .int .u64 0, .int .u64 0] (0, 0) _ rfl (setRow_heap _ _ _ _ _ _ XV.out) Tryd.underlying132 rfl (by kernel_rfl)) rfl ⟨rfl, below_setRow DV.out (Nat.le_refl _) _⟩
  rw [if_neg p2] at hd
  have HL := Lib.hid (show l.length = 512 by omega)
  have HD := Lib.hid hd
  have HL5 := Lib.hid hl
  clear p1 p2 hd hl
  obtain ⟨g, o, cv, rfl⟩ := BV.out.shapeAt (by rw [HL.out]; decide)
  obtain ⟨y0, hy0⟩ : ∃ z, l[0]? = some z := ⟨_, List.getElem?_eq_getElem (by rw [HL.out]; decide)⟩
  have hn0 := num_oneH l 0 y0 hy0
  have A0C := Lib.hid ((BV.out.below DV.out).cellAt hy0)
  obtain ⟨y3, hy3⟩ : ∃ z, l[3]? = some z := ⟨_, List.getElem?_eq_getElem (by rw [HL.out]; decide)⟩
  have hn3 := num_oneH l 3 y3 hy3
  have A3C := Lib.hid ((BV.out.below DV.out).cellAt hy3)
  obtain ⟨y4, hy4⟩ : ∃ z, l[4]? = some z := ⟨_, List.getElem?_eq_getElem (by rw [HL.out]; decide)⟩
  have hn4 := num_oneH l 4 y4 hy4
  have A4C := Lib.hid ((BV.out.below DV.out).cellAt hy4)
  obtain ⟨y5, hy5⟩ : ∃ z, l[5]? = some z := ⟨_, List.getElem?_eq_getElem (by rw [HL.out]; decide)⟩
  have hn5 := num_oneH l 5 y5 hy5
  have A5C := Lib.hid ((BV.out.below DV.out).cellAt hy5)
  have GL := Lib.hid (byt_lt2H BV.out (by rw [HL.out]; decide) g o _ cv rfl)
  obtain ⟨x1, hx1⟩ : ∃ x, num l 1 2 = x := ⟨_, rfl⟩
  have A0 := Lib.hid (show hlA l 0 = #[.int .u8 (uv y0), .int .u16 (uv (x1.setWidth 16)), .int .u8 (uv y3), .int .u8 (uv y4), .int .u8 (uv y5), .int .u64 0, .int .u64 0, .int .u64 0, .int .u64 0, .int .u64 0, .int .u64 0, .int .u64 0, .int .u64 0, .int .u64 0, .int .u64 0] by
    have h : hlA l 0 = #[.int .u8 (uv ((num l 0 1).setWidth 8)), .int .u16 (uv ((num l 1 2).setWidth 16)), .int .u8 (uv ((num l 3 1).setWidth 8)), .int .u8 (uv ((num l 4 1).setWidth 8)), .int .u8 (uv ((num l 5 1).setWidth 8)), .int .u64 0, .int .u64 0, .int .u64 0, .int .u64 0, .int .u64 0, .int .u64 0, .int .u64 0, .int .u64 0, .int .u64 0, .int .u64 0] := rfl
    rw [h, hn0, hn3, hn4, hn5, hx1]
    simp)
  have X1 := Lib.hid hx1
  have AS := Lib.hid (fun (k : Nat) (c : BitVec 64) (hk : k < 10) (hc : num l (32 + 16 * k) 8 = c) => hlA_set l k c hk hc)
  have AG := Lib.hid (fun (k : Nat) (hk : k < 10) => hlA_get l k hk)
  have AZ := Lib.hid (hlA_size l 10 (Nat.le_refl _))
  have AO := Lib.hid (show (hlA l 10).all (·.oneCell') = true from hl_one _)
  have AT := Lib.hid (hlA_ten l)
  obtain ⟨A, hA⟩ : ∃ A, hlA l = A := ⟨_, rfl⟩
  rw [hA] at A0 AS AG AZ AO AT
  clear hA
  obtain ⟨s6, hu6, hr6, -⟩ := BV.out.cut (P := Tryd.prog) (T := 22) Tryd.underlying22 bszU 6 32 (by omega) (by rw [HL.out]; decide)
  rw [List.drop_take, show (l.drop 6).take (32 - 6) = cut l 6 26 from rfl] at hu6
  obtain ⟨s9, hu9, hr9⟩ := BV.out.cutl (P := Tryd.prog) (T := 22) Tryd.underlying22 bszU 192 (by rw [HL.out]; decide)
  have U6 := Lib.hid hu6; have U9 := Lib.hid hu9
  have SL := Lib.hid (fun (k : Nat) (hk : k < 10) => BV.out.cut (P := Tryd.prog) (T := 22) Tryd.underlying22 bszU (40 + 16 * k) (48 + 16 * k) (by omega) (by rw [HL.out]; omega))
  obtain ⟨z1, hz1⟩ : ∃ z, allZ (cut l 6 26) = z := ⟨_, rfl⟩
  obtain ⟨z2, hz2⟩ : ∃ z, allZ (l.drop 192) = z := ⟨_, rfl⟩
  have Z1 := Lib.hid hz1; have Z2 := Lib.hid hz2
  have F0 := Lib.hid (show hlFine l 0 = (z1 && z2) by unfold hlFine; rw [hz1, hz2]; simp)
  have FM := Lib.hid (hlFine_more l)
  obtain ⟨F, hF⟩ : ∃ F, hlFine l = F := ⟨_, rfl⟩
  have HDF := Lib.hid (show (if F 10 = true then (hlRd l, (0 : Int)) else (hlZ, 6)) = (y, e) by rw [← hF]; exact HD.out)
  rw [hF] at F0 FM
  clear hF HD
  have hmm : (l.length : Int) ≤ 5000 := by rw [HL.out]; decide
  rw [HL.out] at hr6 hr9 SL ⊢
  have R6 := Lib.hid (show ∀ w' : World, (Instr.slice 22 (.slice (some ⟨g, o, none⟩) 512 cv) (some (.int .i64 6)) (some (.int .i64 32)) none).run Tryd.prog w' = .ok s6 w' from hr6)
  have R9 := Lib.hid (show ∀ w' : World, (Instr.slice 22 (.slice (some ⟨g, o, none⟩) 512 cv) (some (.int .i64 192)) none none).run Tryd.prog w' = .ok s9 w' from hr9)
  have BV4 := Lib.hid (show BytesV w (.slice (some ⟨g, o, none⟩) 512 cv) l by have := BV.out; rwa [HL.out] at this)
  clear hy0 hy3 hy4 hy5 hn0 hn3 hn4 hn5 hu6 hu9 hr6 hr9 hz1 hz2 hx1 hb hmm
  go_enter Tryd.func61, Tryd.ntmps61
  go_upto_region 1 with (fail)
  rw [← HV.out]
  go_upto_region 4 with (first
    | (go_at_call 105; go_loud (refine (check23 _ l 512 512 0 _ rfl (BV4.out.below DV.out) (by unfold chkE; rw [HL.out]; rfl)).mono ?_; rintro r w1 ⟨rfl, rfl⟩)))
  go_cut [5] (fun v5 wx => ∃ Y, v5 = .pointer (some ⟨Y, 0, none⟩) ∧ V.heap.size ≤ Y ∧ wx.heap[Y]? = some (.cells (A 0) 132 (0, 0)) ∧ Below V.heap.size V wx)
  case first =>
    have q0 : ∀ y : KeepT nowhere V, y.val.cell? ⟨g, o, none⟩ = some (.int .u8 (uv y0)) := fun y => y.cell A0C.out id
    have q3 : ∀ y : KeepT nowhere V, y.val.cell? ⟨g, o + 3, none⟩ = some (.int .u8 (uv y3)) := fun y => y.cell A3C.out id
    have q4 : ∀ y : KeepT nowhere V, y.val.cell? ⟨g, o + 4, none⟩ = some (.int .u8 (uv y4)) := fun y => y.cell A4C.out id
    have q5 : ∀ y : KeepT nowhere V, y.val.cell? ⟨g, o + 5, none⟩ = some (.int .u8 (uv y5)) := fun y => y.cell A5C.out id
    refine wp_region_planT nowhere (.firm 0 (.firm 1 (.firm 2 (.firm 3 (.firm 6 (.firm 7 (.firm 8 (.firm 9 (.firm 10 (.firm 11 (.firm 12 (.firm 13 (.firm 14 (.two 4 (.firm 5 (.firm 15 (.one 16 (.one 17 .done)))) 16 (.one 4 (.firm 5 (.firm 15 (.one 17 .done)))))))))))))))))) (by kernel_rfl) (by kernel_rfl) (by intro c a d v w h; cases d <;> exact h) ?_
    intro W1 K1 C1
    repeat (refine wpT_firm rfl (fun K hK => ?_); simp only [Keep]; go_simp; refine hK _ ?_; clear hK K)
    have B1 := Lib.hid ((BV4.out.below DV.out).below C1.out)
    refine wpT_two rfl rfl ?_ ?_
    · go_wp2_with (go_at_call 106; go_loud (refine (rget23 _ l 1 2 x1 _ B1.out HL5.out (by rw [HL.out]; decide) (by decide) (by decide) X1.out).mono ?_; rintro r wz ⟨rfl, rfl⟩))
      refine ⟨K1.out, ?_⟩
      repeat (refine wpT_firm rfl (fun K hK => ?_); simp only [Keep]; go_simp; refine hK _ ?_; clear hK K)
      refine wpT_chain rfl ?_
      go_wp2_with fail
      refine ⟨K1.out.alloc _, ?_⟩
      refine wpT_chain rfl ?_
      refine wpList_store_new rfl 132 (.tmp 5) (.tmp 29) rfl #[.int .u8 (uv y0), .int .u16 (uv (x1.setWidth 16)), .int .u8 (uv y3), .int .u8 (uv y4), .int .u8 (uv y5), .int .u64 0, .int .u64 0, .int .u64 0, .int .u64 0, .int .u64 0, .int .u64 0, .int .u64 0, .int .u64 0, .int .u64 0, .int .u64 0] 132 _ rfl rfl (by kernel_rfl) rfl (by simp [Value.oneCell']) ?_
      intro w7 hr hw
      rw [← A0.out] at hr
      have C3 := Lib.hid (gr_tr C1.out hw); have K3 := Lib.hid (K1.out.below hw); have R3 := Lib.hid hr; clear hr hw
      go_wp2_with fail
      refine ⟨K3.out, ?_⟩
      unfold wpT
      go_wp2_with fail
      go_meet
      exact ⟨_, rfl, C1.out.size, R3.out, C3.out⟩
    · go_wp2_with fail
      refine ⟨K1.out.alloc _, ?_⟩
      refine wpT_chain rfl ?_
      go_wp2_with (go_at_call 106; go_loud (refine (rget23 _ l 1 2 x1 _ (B1.out.below (gr_alloc _ _)) HL5.out (by rw [HL.out]; decide) (by decide) (by decide) X1.out).mono ?_; rintro r wz ⟨rfl, rfl⟩))
      refine ⟨K1.out.alloc _, ?_⟩
      repeat (refine wpT_firm rfl (fun K hK => ?_); simp only [Keep]; go_simp; refine hK _ ?_; clear hK K)
      refine wpT_chain rfl ?_
      refine wpList_store_new rfl 132 (.tmp 5) (.tmp 29) rfl #[.int .u8 (uv y0), .int .u16 (uv (x1.setWidth 16)), .int .u8 (uv y3), .int .u8 (uv y4), .int .u8 (uv y5), .int .u64 0, .int .u64 0, .int .u64 0, .int .u64 0, .int .u64 0, .int .u64 0, .int .u64 0, .int .u64 0, .int .u64 0, .int .u64 0] 132 _ rfl rfl (by kernel_rfl) rfl (by simp [Value.oneCell']) ?_
      intro w7 hr hw
      rw [← A0.out] at hr
      have C3 := Lib.hid (gr_tr C1.out hw); have K3 := Lib.hid (K1.out.below hw); have R3 := Lib.hid hr; clear hr hw
      go_wp2_with fail
      refine ⟨K3.out, ?_⟩
      unfold wpT
      go_wp2_with fail
      go_meet
      exact ⟨_, rfl, C1.out.size, R3.out, C3.out⟩
  case rest =>
    obtain ⟨Y, rfl, hY, hc, hw⟩ := hcut
    obtain ⟨w5, hw5⟩ : ∃ x, x = wc := ⟨_, rfl⟩
    subst hw5
    have YL := Lib.hid hY
    have Y5 := Lib.hid hc; have D5 := Lib.hid (gr_tr DV.out hw); have X5 := Lib.hid (blk_below XV.out hw)
    have B5 := Lib.hid (BV4.out.below (gr_tr DV.out hw))
    have r6 := R6.out; have r9 := R9.out
    clear hY hc hw
    go_upto_region 5 with (fail)
    go_cut [6] (fun v wx => v = .bool (F 0) ∧ w5 = wx)
    case first =>
      cases z1
      · go_wp2_with (go_at_call 107; go_loud ((with_reducible refine (rZeros_at s6 (cut l 6 26) false _ (U6.out.below D5.out) Z1.out).mono ?_); rintro r wz ⟨rfl, rfl⟩))
        go_meet
        exact ⟨by rw [F0.out]; rfl, rfl⟩
      · go_wp2_with (first
          | (go_at_call 107; go_loud ((with_reducible refine (rZeros_at s6 (cut l 6 26) true _ (U6.out.below D5.out) Z1.out).mono ?_); rintro r wz ⟨rfl, rfl⟩))
          | (go_at_call 107; go_loud ((with_reducible refine (rZeros_at s9 (l.drop 192) z2 _ (U9.out.below D5.out) Z2.out).mono ?_); rintro r wz ⟨rfl, rfl⟩)))
        go_meet
        exact ⟨by rw [F0.out]; rfl, rfl⟩
    case rest =>
      obtain ⟨rfl, rfl⟩ := hcut
      clear r6 r9
      go_upto_region 7 with (fail)
      go_loopw [6, 7] (fun f i wr => ∃ k : Nat, k ≤ 10 ∧ i = .int .i64 k ∧ f = .bool (F k) ∧ wr.heap[w.heap.size]? = some (.cells #[.int .u8 0, .int .u16 0, .int .u8 0, .int .u8 0, .int .u8 0, .int .u64 0, .int .u64 0, .int .u64 0, .int .u64 0, .int .u64 0, .int .u64 0, .int .u64 0, .int .u64 0, .int .u64 0, .int .u64 0] 132 (0, 0)) ∧ wr.heap[Y]? = some (.cells (A k) 132 (0, 0)) ∧ Below w.heap.size w wr) (fun _ i _ => 10 - (intOf i).toNat)
      case atStart => exact ⟨0, by omega, rfl, rfl, X5.out, Y5.out, D5.out⟩
      case round =>
        obtain ⟨k, hk, rfl, rfl, hx, hy, hb⟩ := hrel
        have Xa := Lib.hid hx; have Ya := Lib.hid hy; have Da := Lib.hid hb; clear hx hy hb
        have Ba := Lib.hid (BV4.out.below Da.out)
        by_cases hlt : k < 10
        · obtain ⟨c, hc⟩ : ∃ c, num l (32 + 16 * k) 8 = c := ⟨_, rfl⟩
          have HC := Lib.hid hc
          have SS := Lib.hid (AS.out k c hlt hc)
          clear hc
          obtain ⟨uk, huk, hrk, -⟩ := SL.out k hlt
          rw [List.drop_take, show (l.drop (40 + 16 * k)).take (48 + 16 * k - (40 + 16 * k)) = cut l (40 + 16 * k) 8 by unfold cut; congr 1; omega] at huk
          rw [show ((40 + 16 * k : Nat) : Int) = 40 + 16 * (k : Int) by omega, show ((48 + 16 * k : Nat) : Int) = 48 + 16 * (k : Int) by omega] at hrk
          have UK := Lib.hid huk
          obtain ⟨zk, hzk⟩ : ∃ z, allZ (cut l (40 + 16 * k) 8) = z := ⟨_, rfl⟩
          have ZK := Lib.hid hzk
          obtain ⟨fk, hfk⟩ : ∃ f, F k = f := ⟨_, rfl⟩
          have FK := Lib.hid (show F (k + 1) = (fk && zk) by rw [FM.out, hfk, hzk])
          rw [hfk]
          clear hfk hzk huk
          have yb : wr.cell? ⟨Y, 5 + k, none⟩ = some (.int .u64 0) := (cell_of_row _ _ _ _ _ _ Ya.out).trans (AG.out k hlt)
          have fb := frozen_of_row _ _ (5 + k) _ _ Ya.out
          obtain ⟨wc, hwc⟩ : ∃ wc, wc = wr.setCell ⟨Y, 5 + k, none⟩ (.int .u64 (uv c)) := ⟨_, rfl⟩
          have HWC := Lib.hid hwc
          have cc : Chg (fun b => b = Y) wr wc := by rw [hwc]; exact Chg.setCell (B := fun b => b = Y) (p := ⟨Y, 5 + k, none⟩) _ rfl _
          have Yc := Lib.hid (show wc.heap[Y]? = some (.cells (A (k + 1)) 132 (0, 0)) by rw [hwc, ← SS.out]; exact heap_setCell_same _ _ _ _ _ _ Ya.out)
          have Xc := Lib.hid (cc.blk Xa.out (by have h1 := YL.out; have h2 := VS.out; omega))
          have Dc := Lib.hid (Da.out.trans (cc.below (fun q hq => by subst hq; have h1 := YL.out; have h2 := VS.out; omega) Da.out.size))
          clear hwc cc
          have hk0 : (0 : Int) ≤ (k : Int) := by omega
          have hk1 : (k : Int) < 10 := by omega
          cases fk
          · go_wp2_with (go_at_call 106; go_loud (refine (rget23 _ l (32 + 16 * k) 8 c _ Ba.out HL5.out (by rw [HL.out]; omega) (by decide) (by decide) HC.out).mono ?_; rintro r wz ⟨rfl, rfl⟩))
            go_roundw
            case rel =>
              rw [← HWC.out]
              exact ⟨k + 1, by omega, by go_num, by rw [FK.out]; rfl, Xc.out, Yc.out, Dc.out⟩
            case measure => simp [intOf]; omega
          · go_wp2_with (first
              | (go_at_call 106; go_loud (refine (rget23 _ l (32 + 16 * k) 8 c _ Ba.out HL5.out (by rw [HL.out]; omega) (by decide) (by decide) HC.out).mono ?_; rintro r wz ⟨rfl, rfl⟩))
              | (go_at_call 107; rw [← HWC.out]; go_loud ((with_reducible refine (rZeros_at uk (cut l (40 + 16 * k) 8) zk _ (UK.out.below Dc.out) ZK.out).mono ?_); rintro r wz ⟨rfl, rfl⟩)))
            go_roundw
            case rel => exact ⟨k + 1, by omega, by go_num, by rw [FK.out]; rfl, Xc.out, Yc.out, Dc.out⟩
            case measure => simp [intOf]; omega
        · obtain rfl : k = 10 := by omega
          obtain ⟨fk, hfk⟩ : ∃ f, F 10 = f := ⟨_, rfl⟩
          have hd2 := HDF.out
          rw [hfk] at hd2 ⊢
          cases fk
          · simp only [Bool.false_eq_true, if_false] at hd2
            cases hd2
            go_wp2_with (refine wpList_store_row rfl 132 (.tmp 2) (.tmp 64) rfl w.heap.size #[.int .u8 0, .int .u16 0, .int .u8 0, .int .u8 0, .int .u8 0, .int .u64 0, .int .u64 0, .int .u64 0, .int .u64 0, .int .u64 0, .int .u64 0, .int .u64 0, .int .u64 0, .int .u64 0, .int .u64 0] rfl rfl 132 _ Xa.out (by kernel_rfl) rfl (by simp [Value.oneCell']) ?_)
            exact bodyPost_ret (results_row_tmp rfl _ _ w.heap.size 132 #[.int .u8 0, .int .u16 0, .int .u8 0, .int .u8 0, .int .u8 0, .int .u64 0, .int .u64 0, .int .u64 0, .int .u64 0, .int .u64 0, .int .u64 0, .int .u64 0, .int .u64 0, .int .u64 0, .int .u64 0] (0, 0) _ rfl (setRow_heap _ _ _ _ _ _ Xa.out) Tryd.underlying132 rfl (by kernel_rfl)) rfl ⟨by rw [ZS.out]; rfl, below_setRow Da.out (Nat.le_refl _) _⟩
          · simp only [if_true] at hd2
            cases hd2
            go_wp2_with (first
              | (refine wpList_load_row rfl 132 (.tmp 5) rfl Y rfl 132 (A 10) (0, 0) _ Ya.out Tryd.underlying132 rfl (by rw [AZ.out]; kernel_rfl) ?_)
              | (refine wpList_store_row rfl 132 (.tmp 2) (.tmp 65) rfl w.heap.size (A 10) rfl rfl 132 _ Xa.out (by rw [AZ.out]; kernel_rfl) (by rw [AZ.out]; rfl) AO.out ?_))
            exact bodyPost_ret (results_row_tmp rfl _ _ w.heap.size 132 (A 10) (0, 0) _ rfl (setRow_heap _ _ _ _ _ _ Xa.out) Tryd.underlying132 rfl (by rw [AZ.out]; kernel_rfl)) rfl ⟨by rw [← AT.out]; rfl, below_setRow Da.out (Nat.le_refl _) _⟩
end Go.Proofs.YthnnopjakpjoeaaDoor
