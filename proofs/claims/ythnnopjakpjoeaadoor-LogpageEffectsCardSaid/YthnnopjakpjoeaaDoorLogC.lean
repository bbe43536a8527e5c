/- Package logpage: Slice; completion.Make; statuses. Printed by genlogc.py. -/
import Derived.Test.YthnnopjakpjoeaaDoorLogB
import Derived.Test.YthnnopjakpjoeaaDoorCopyIn
import Derived.Test.YthnnopjakpjoeaaDoorRows2
import Derived.Laws.CopyOwn
import Derived.Laws.StructEq
namespace Go.Proofs.YthnnopjakpjoeaaDoor
open Go.RowKit Lg
set_option linter.unusedVariables false
set_option linter.unusedSimpArgs false
theorem results_tmp_row {P : Program} {fn : Func} {p u : Tmp} {ty : TypeId} (h : fn.results = #[.tmp u, .cell p ty]) (tmps : Array Value) (w : World) (g : Nat) (t : TypeId) (cs : Array Value) (fr : Nat × Nat) (d : TypeDesc)
    (hp : tmps.getD p undef = .pointer (some ⟨g, 0, none⟩)) (hg : w.heap[g]? = some (.cells cs t fr))
    (hu : P.underlying ty = some d) (hd : (match d with | .struct _ | .array _ _ => true | _ => false) = true) (hi : (P.info? ty).map (·.size) = some cs.size) :
    (results fn tmps).run P w = .ok (.tuple #[tmps.getD u undef, .agg cs]) w := by
  have hp' : tmps[p]?.getD undef = .pointer (some ⟨g, 0, none⟩) := by simpa using hp
  simp [results, h, hp', asAddr, run_loadVar_row w g t ty cs fr d hg hu hd hi]
/-- 'copy(own, x)': as much as there is room for. -/
theorem copy_min {ops : Array Oper} {rest : List Oper} {o : Oper} {a : Act} {Q : Exit → Act → World → Prop} {W : World} (hgd : o.guard = none) (d s : Operand) (ho : o.op = .call { callee := .builtin .copy, args := #[d, s], argTypes := #[22, 22] })
    (base g n cap : Nat) (k l : List (BitVec 8)) (hd : a.eval d = .slice (some ⟨g, 0, none⟩) n cap) (v : Value) (hs : a.eval s = v) (hown : W.ownsRow base 5 1 (.slice (some ⟨g, 0, none⟩) n cap) n (by8 k)) (hv : BytesV W v l)
    (h : ∀ r w', w'.ownsRow base 5 1 (.slice (some ⟨g, 0, none⟩) n cap) n (by8 (Lay.lay k 0 (l.take n))) → W.grownBy w' (some g) → wpList Tryd.prog ops Q rest (a.put o.dst r) w') : wpList Tryd.prog ops Q (o :: rest) a W := by
  obtain ⟨av, cv, rfl, n1, n2, n3, n4⟩ := hv
  by_cases hz : Nat.min l.length n = 0
  · refine wpList_copy_nothing hgd d s _ _ ho 5 Tryd.underlying22 bszU _ _ n cap l.length cv hd hs hz ?_
    refine h _ W ?_ (World.grownBy.refl _ _)
    have hz2 : min l.length n = 0 := hz
    have : l.take n = [] := List.length_eq_zero_iff.1 (by rw [List.length_take]; omega)
    rw [this, Lay.lay_nil]; exact hown
  · have hz2 : ¬ min l.length n = 0 := hz
    obtain ⟨h1, h2⟩ := hown
    rcases h2 with ⟨e1, e2⟩ | ⟨g', cap', cur, hv, hg, hh, r1, r2, r3, r4⟩
    · omega
    cases hv
    simp only [by8_length, Nat.mul_one] at h1 r3 r4
    obtain ⟨ad, rfl, hsrc⟩ := n4.src (by intro e; have h0 := congrArg List.length e; rw [by8_length, List.length_nil] at h0; omega)
    have hlt : (l.take n).length = min n l.length := List.length_take
    have hsrc2 : ∀ j v, (by8 (l.take n))[j]? = some v → W.cell? (ad.add j) = some v := fun j v hj => hsrc j v (by
      have h9 := (List.getElem?_eq_some_iff.1 hj).1
      rw [by8_length, hlt] at h9
      rw [by8_get, List.getElem?_take_of_lt (by omega)] at hj
      rw [by8_get]; exact hj)
    refine wpList_copy_own hgd d s _ _ ho 5 Tryd.underlying22 bszU g 0 n cap ad l.length cv hd hs cur 5 hh (by8 (l.take n)) (by rw [by8_length, hlt]; exact Nat.min_comm _ _) hsrc2 (by rw [by8_length]; omega) (by8_one _) ?_
    rw [by8_length]
    refine h _ _ ⟨by rw [by8_length, Nat.mul_one, Lay.lay_len (by omega)]; exact h1, .inr ⟨g, cap, _, rfl, hg, setRow_heap _ _ _ _ _ _ hh, r1, r2, ?_, ?_⟩⟩ ?_
    · simp only [List.size_toArray, List.length_append, List.length_take, List.length_drop, by8_length, Array.length_toList]; omega
    · have hk : by8 (Lay.lay k 0 (l.take n)) = by8 (l.take n) ++ (by8 k).drop (l.take n).length := by simp [by8, Lay.lay]
      have hc : cur.toList.take n = by8 k := r4
      rw [hk, ← hc, Nat.mul_one, List.take_zero, List.nil_append, Nat.zero_add]
      show (by8 (l.take n) ++ cur.toList.drop (l.take n).length).take n = _
      rw [List.take_append, List.take_of_length_le (by rw [by8_length]; omega), by8_length, List.drop_take]
    · exact ⟨rfl, rfl, rfl, by simp [World.setRow], fun i hi hne => setRow_other W g i _ (by intro e; exact hne (by rw [e]))⟩
theorem BytesV.cutK {w : World} {v : Value} {l : List (BitVec 8)} (k : IntKind) (h : BytesV w v l) (lo : Nat) (h1 : lo ≤ l.length) :
    ∃ u, BytesV w u (l.drop lo) ∧ (∀ w', (Instr.slice 22 v (some (.int k lo)) none none).run Tryd.prog w' = .ok u w') := by
  obtain ⟨a, c, rfl, h0, hl, hc, hr⟩ := h
  have he : Tryd.prog.elem 22 = 5 := by simp [Program.elem, Tryd.underlying22]
  have ht' : Tryd.prog.underlying 22 = some (.slice (Tryd.prog.elem 22)) := by rw [he]; exact Tryd.underlying22
  have hz : ∀ w', (sizeOf (Tryd.prog.elem 22)).run Tryd.prog w' = .ok 1 w' := fun w' => by
    rw [he]
    obtain ⟨i, hi, hi'⟩ := Option.map_eq_some_iff.1 bszU
    simp [sizeOf, typeInfo, hi, hi']
  have hlen : (l.drop lo).length = l.length - lo := by simp
  refine ⟨.slice (if c = lo then a else a.map (·.add (lo * 1))) (l.length - lo) (c - lo), ⟨_, c - lo, by rw [hlen], ?_, by omega, by omega, ?_⟩, fun w' => ?_⟩
  · intro hn
    split at hn
    · omega
    · rw [Option.map_eq_none_iff] at hn; have := h0 hn; omega
  · by_cases e : l.length = lo
    · rw [show l.drop lo = [] from List.length_eq_zero_iff.1 (by rw [hlen]; omega)]; exact .inl rfl
    · rw [if_neg (by omega)]
      rcases hr with h | ⟨b, o, rfl, h⟩
      · have : l = [] := by simpa [by8] using h
        subst this; simp at h1 e; omega
      · have hr' : Row w (some ⟨b, o, none⟩) (by8 l) := .inr ⟨b, o, rfl, h⟩
        have := hr'.drop lo
        simp only [Option.map_some, Nat.mul_one, Addr.add]
        have e2 : by8 (l.drop lo) = (by8 l).drop lo := by simp [by8]
        rw [e2]
        split
        · rename_i h0; subst h0; simpa using this
        · exact this
  · rw [run_slice_l w' 22 a l.length c ht' k lo (by omega) (by omega), hz]
    simp [Result.andThen, sliced]
namespace Lg
def slOk (l : List (BitVec 8)) (o : BitVec 64) (d : BitVec 32) : Bool := decide (o.toNat % 4 = 0) && (decide (o.toNat ≤ l.length) && (decide (1 ≤ d.toNat) && decide (d.toNat ≤ 65536)))
def slB (l : List (BitVec 8)) (o : BitVec 64) (d : BitVec 32) : List (BitVec 8) := (l.drop o.toNat).take (4 * d.toNat) ++ List.replicate (4 * d.toNat - (l.length - o.toNat)) 0#8
def slR (l : List (BitVec 8)) (o : BitVec 64) (d : BitVec 32) : List (BitVec 8) := if slOk l o d then slB l o d else []
/-- The status of success, and 'invalid field'. -/
def stC (b : Bool) : Array Value := if b then #[.int .u8 0, .int .u8 0, .bool false, .bool false] else #[.int .u8 0, .int .u8 2, .bool false, .bool false]
theorem lay_zeros (N : Nat) (x : List (BitVec 8)) : Lay.lay (List.replicate N 0#8) 0 x = x ++ List.replicate (N - x.length) 0#8 := by
  unfold Lay.lay
  rw [List.take_zero, List.nil_append, Nat.zero_add, List.drop_replicate]
theorem slB_lay (l : List (BitVec 8)) (o : BitVec 64) (d : BitVec 32) (N : Nat) (hN : 4 * d.toNat = N) : Lay.lay (List.replicate N 0#8) 0 ((l.drop o.toNat).take N) = slB l o d := by
  rw [lay_zeros]; unfold slB; rw [hN, List.length_take, List.length_drop]
  congr 2; omega
end Lg
set_option maxRecDepth 20000 in
theorem make_no (w : World) :
    Calls Tryd.prog 66 #[.int .u16 2, .bool false] w fun e w' => e = .returned (.agg #[.int .u8 0, .int .u8 2, .bool false, .bool false]) ∧ Below w.heap.size w w' := by
  go_enter Tryd.func66, Tryd.ntmps66
  go_wp2_with ((refine wpList_store_new rfl 27 (.tmp 4) (.tmp 12) rfl #[.int .u8 0, .int .u8 2, .bool false, .bool false] 27 _ rfl rfl (by kernel_rfl) rfl (by simp [Value.oneCell']) ?_; intro w1 hh hb; have HH := Lib.hid hh; have HB := Lib.hid hb; clear hh hb))
  exact bodyPost_ret (v := .agg #[.int .u8 0, .int .u8 2, .bool false, .bool false]) (results_cell_row rfl _ _ w.heap.size 27 _ (0, 0) _ rfl HH.out Tryd.underlying27 rfl (by kernel_rfl)) rfl ⟨rfl, HB.out⟩
theorem st_equalIn (b c : Bool) (w : World) : (Op.equalIn 10000 27 (.agg (stC b)) (.agg (stC c))).run Tryd.prog w = .ok (b == c) w := by
  have hS : Tryd.prog.underlying 27 = some (.struct (Tryd.prog.fieldsOf 27)) := by kernel_rfl
  have hp : Tryd.prog.stoodInHeld 27 = false := by kernel_rfl
  have u1 := Tryd.underlying4
  have u4 := Tryd.underlying5
  cases b <;> cases c <;>
  · simp only [stC, if_true, if_false, Bool.false_eq_true]
    rw [show (10000 : Nat) = 9999 + 1 from rfl, run_equalIn_agg w 9999 27 _ _ hS hp]
    simp only [Program.fieldsOf, Tryd.underlying27]
    go_simp
    try simp
theorem st_eql (b c : Bool) (w : World) : (binOp .eql 27 (.agg (stC b)) (.agg (stC c))).run Tryd.prog w = .ok (.bool (b == c)) w := by
  rw [run_eql_struct, st_equalIn]; rfl
set_option maxRecDepth 20000 in
theorem good_any (b : Bool) (w : World) :
    Calls Tryd.prog 16 #[.agg (stC b)] w fun e w' => e = .returned (.bool b) ∧ Below w.heap.size w w' := by
  have q := fun w => st_eql b true w
  rw [show stC true = #[.int .u8 0, .int .u8 0, .bool false, .bool false] from rfl] at q
  cases b
  · rw [show stC false = #[.int .u8 0, .int .u8 2, .bool false, .bool false] from rfl] at q ⊢
    go_enter Tryd.func16, Tryd.ntmps16
    go_wp2
    go_ret
    exact ⟨rfl, gr_alloc _ _⟩
  · rw [show stC true = #[.int .u8 0, .int .u8 0, .bool false, .bool false] from rfl] at q ⊢
    go_enter Tryd.func16, Tryd.ntmps16
    go_wp2
    go_ret
    exact ⟨rfl, gr_alloc _ _⟩
set_option maxRecDepth 20000 in
theorem code_no (w : World) :
    Calls Tryd.prog 65 #[.agg #[.int .u8 0, .int .u8 2, .bool false, .bool false]] w fun e w' => e = .returned (.int .i64 2) ∧ Below w.heap.size w w' := by
  go_enter Tryd.func65, Tryd.ntmps65
  go_wp2
  go_ret
  exact ⟨rfl, gr_alloc _ _⟩
set_option maxHeartbeats 1600000 in
set_option maxRecDepth 20000 in
theorem Slice_at (v : Value) (l : List (BitVec 8)) (o : BitVec 64) (d : BitVec 32) (b : Bool) (B : List (BitVec 8)) (w : World) (hv : BytesV w v l) (hb : slOk l o d = b) (hB : slR l o d = B) :
    Calls Tryd.prog 14 #[v, .int .u64 (uv o), .int .u32 (uv d)] w fun r w' => ∃ u, r = .returned (.tuple #[u, .agg (stC b)]) ∧ BytesV w' u B ∧ Below w.heap.size w w' := by
  have V := Lib.hid hv
  obtain ⟨av, cv, rfl, h0, h1, h2, h3⟩ := hv
  have hm : (l.length : Int) ≤ 9223372036854775807 := by omega
  unfold slR at hB
  rw [hb] at hB
  obtain ⟨r, hr⟩ : ∃ r : Int, (uv o).tmod 4 = r := ⟨_, rfl⟩
  have hr4 : r = ((o.toNat % 4 : Nat) : Int) := by rw [← hr]; show ((o.toNat : Int)).tmod 4 = _; rw [Int.tmod_eq_emod_of_nonneg (by omega)]; omega
  have hlen : uv (BitVec.ofNat 64 l.length) = (l.length : Int) := by show ((BitVec.ofNat 64 l.length).toNat : Int) = _; rw [BitVec.toNat_ofNat, Nat.mod_eq_of_lt (by omega)]
  have ho : uv o = o.toNat := rfl
  have hd : uv d = d.toNat := rfl
  unfold slOk at hb
  clear h0 h1 h2 h3
  by_cases c1 : ¬ r = 0
  · have hq : (r != 0) = true := by simpa using c1
    rw [decide_eq_false (by omega : ¬ o.toNat % 4 = 0), Bool.false_and] at hb
    subst hb
    clear c1 hr4 ho hd
    simp only [Bool.false_eq_true, if_false] at hB
    subst hB
    go_enter Tryd.func14, Tryd.ntmps14
    go_wp2_with (first
      | (go_at_call 66; go_loud (refine (make_no _).mono ?_; rintro rr w1 ⟨rfl, hw⟩; have X1 := Lib.hid (blk_below (heap_alloc_new w _) hw); have D1 := Lib.hid (gr_tr (gr_alloc w _) hw); clear hw))
      | (refine wpList_store_row rfl 27 (.tmp 7) (.tmp 27) rfl w.heap.size #[.int .u8 0, .int .u8 2, .bool false, .bool false] rfl rfl 27 _ X1.out (by kernel_rfl) rfl (by simp [Value.oneCell']) ?_))
    exact bodyPost_ret (results_tmp_row rfl _ _ w.heap.size 27 #[.int .u8 0, .int .u8 2, .bool false, .bool false] (0, 0) _ rfl (setRow_heap _ _ _ _ _ _ X1.out) Tryd.underlying27 rfl (by kernel_rfl)) rfl ⟨_, rfl, BytesV.nil _, below_setRow D1.out (Nat.le_refl _) _⟩
  replace c1 := Decidable.not_not.1 c1
  subst c1
  rw [decide_eq_true (by omega : o.toNat % 4 = 0), Bool.true_and] at hb
  by_cases c2 : ¬ o.toNat ≤ l.length
  · have hq : decide ((l.length : Int) < uv o) = true := decide_eq_true (by omega)
    rw [decide_eq_false c2, Bool.false_and] at hb
    subst hb
    clear c2 hr4 ho hd
    simp only [Bool.false_eq_true, if_false] at hB
    subst hB
    go_enter Tryd.func14, Tryd.ntmps14
    go_wp2_with (first
      | (go_at_call 66; go_loud (refine (make_no _).mono ?_; rintro rr w1 ⟨rfl, hw⟩; have X1 := Lib.hid (blk_below (heap_alloc_new w _) hw); have D1 := Lib.hid (gr_tr (gr_alloc w _) hw); clear hw))
      | (refine wpList_store_row rfl 27 (.tmp 7) (.tmp 27) rfl w.heap.size #[.int .u8 0, .int .u8 2, .bool false, .bool false] rfl rfl 27 _ X1.out (by kernel_rfl) rfl (by simp [Value.oneCell']) ?_))
    exact bodyPost_ret (results_tmp_row rfl _ _ w.heap.size 27 #[.int .u8 0, .int .u8 2, .bool false, .bool false] (0, 0) _ rfl (setRow_heap _ _ _ _ _ _ X1.out) Tryd.underlying27 rfl (by kernel_rfl)) rfl ⟨_, rfl, BytesV.nil _, below_setRow D1.out (Nat.le_refl _) _⟩
  replace c2 := Decidable.not_not.1 c2
  have hq2 : decide ((l.length : Int) < uv o) = false := decide_eq_false (by omega)
  rw [decide_eq_true c2, Bool.true_and] at hb
  by_cases c3 : ¬ 1 ≤ d.toNat
  · have hq : decide (uv d < 1) = true := decide_eq_true (by omega)
    rw [decide_eq_false c3, Bool.false_and] at hb
    subst hb
    clear c3 c2 hr4 ho hd
    simp only [Bool.false_eq_true, if_false] at hB
    subst hB
    go_enter Tryd.func14, Tryd.ntmps14
    go_wp2_with (first
      | (go_at_call 66; go_loud (refine (make_no _).mono ?_; rintro rr w1 ⟨rfl, hw⟩; have X1 := Lib.hid (blk_below (heap_alloc_new w _) hw); have D1 := Lib.hid (gr_tr (gr_alloc w _) hw); clear hw))
      | (refine wpList_store_row rfl 27 (.tmp 7) (.tmp 27) rfl w.heap.size #[.int .u8 0, .int .u8 2, .bool false, .bool false] rfl rfl 27 _ X1.out (by kernel_rfl) rfl (by simp [Value.oneCell']) ?_))
    exact bodyPost_ret (results_tmp_row rfl _ _ w.heap.size 27 #[.int .u8 0, .int .u8 2, .bool false, .bool false] (0, 0) _ rfl (setRow_heap _ _ _ _ _ _ X1.out) Tryd.underlying27 rfl (by kernel_rfl)) rfl ⟨_, rfl, BytesV.nil _, below_setRow D1.out (Nat.le_refl _) _⟩
  replace c3 := Decidable.not_not.1 c3
  have hq3 : decide (uv d < 1) = false := decide_eq_false (by omega)
  rw [decide_eq_true c3, Bool.true_and] at hb
  by_cases c4 : ¬ d.toNat ≤ 65536
  · have hq : decide (65536 < uv d) = true := decide_eq_true (by omega)
    rw [decide_eq_false c4] at hb
    subst hb
    clear c4 c3 c2 hr4 ho hd
    simp only [Bool.false_eq_true, if_false] at hB
    subst hB
    go_enter Tryd.func14, Tryd.ntmps14
    go_wp2_with (first
      | (go_at_call 66; go_loud (refine (make_no _).mono ?_; rintro rr w1 ⟨rfl, hw⟩; have X1 := Lib.hid (blk_below (heap_alloc_new w _) hw); have D1 := Lib.hid (gr_tr (gr_alloc w _) hw); clear hw))
      | (refine wpList_store_row rfl 27 (.tmp 7) (.tmp 27) rfl w.heap.size #[.int .u8 0, .int .u8 2, .bool false, .bool false] rfl rfl 27 _ X1.out (by kernel_rfl) rfl (by simp [Value.oneCell']) ?_))
    exact bodyPost_ret (results_tmp_row rfl _ _ w.heap.size 27 #[.int .u8 0, .int .u8 2, .bool false, .bool false] (0, 0) _ rfl (setRow_heap _ _ _ _ _ _ X1.out) Tryd.underlying27 rfl (by kernel_rfl)) rfl ⟨_, rfl, BytesV.nil _, below_setRow D1.out (Nat.le_refl _) _⟩
  replace c4 := Decidable.not_not.1 c4
  have hq4 : decide (65536 < uv d) = false := decide_eq_false (by omega)
  rw [decide_eq_true c4] at hb
  subst hb
  rw [if_pos rfl] at hB
  obtain ⟨N, hN⟩ : ∃ N, 4 * d.toNat = N := ⟨_, rfl⟩
  have hw4 : IntKind.u32.wrap (4 * uv d) = (N : Int) := by
    rw [hd, ← hN]
    unfold IntKind.wrap; simp [IntKind.bits, IntKind.signed]; omega
  have SB := Lib.hid ((slB_lay l o d N hN).trans hB)
  have HN := Lib.hid (show 1 ≤ N ∧ N ≤ 262144 by omega)
  obtain ⟨u', hu', hcut⟩ := V.out.cutK .u64 o.toNat c2
  rw [← ho] at hcut
  have U := Lib.hid hu'
  clear c2 c3 c4 hr4 ho hd hN hB hu'
  obtain ⟨W0, hW⟩ : ∃ W0, W0 = w.alloc (.cells #[.int .u8 0, .int .u8 0, .bool false, .bool false] 27) := ⟨_, rfl⟩
  have D := Lib.hid (show Below w.heap.size w W0 by rw [hW]; exact gr_alloc w _)
  have X := Lib.hid (show W0.heap[w.heap.size]? = some (.cells #[.int .u8 0, .int .u8 0, .bool false, .bool false] 27 (0, 0)) by rw [hW]; exact heap_alloc_new w _)
  have LT := Lib.hid (show w.heap.size < W0.heap.size by rw [hW, World.size_alloc]; omega)
  have HW := Lib.hid hW
  clear hW
  go_enter Tryd.func14, Tryd.ntmps14
  go_upto_region 1 with (fail)
  rw [← HW.out]
  go_wp2_with (first
    | (refine make_law bytesOk rfl _ _ rfl W0.heap.size .u32 .u32 N N N rfl rfl rfl rfl (by have := HN.out; omega) (by have := HN.out; omega) (Nat.le_refl _) ?_; intro w2 hown hgrow; rw [by8_made] at hown; have O2 := Lib.hid hown; have B2 := Lib.hid ((Below.refl W0.heap.size W0).grown hgrow (Nat.le_refl _) (by intro k hk; cases hk)); clear hown hgrow)
    | (refine copy_min rfl (.tmp 31) (.tmp 34) rfl W0.heap.size W0.heap.size N N (List.replicate N 0#8) (l.drop o.toNat) rfl _ rfl O2.out ((U.out.below D.out).below B2.out) ?_; intro rr w3 hown hgrow; rw [SB.out] at hown; have O3 := Lib.hid hown; have B3 := Lib.hid (B2.out.grown hgrow B2.out.size (fun k hk => by cases hk; exact Nat.le_refl _)); have X3 := Lib.hid (blk_below X.out B3.out); clear hown hgrow)
    | (refine wpList_store_row rfl 27 (.tmp 7) (.tmp 37) rfl w.heap.size #[.int .u8 0, .int .u8 0, .bool false, .bool false] rfl rfl 27 _ X3.out (by kernel_rfl) rfl (by simp [Value.oneCell']) ?_))
  have BL : B.length = N := by have := O3.out.1; rwa [by8_length, Nat.mul_one] at this
  have VB := BytesV.of_own (l := B) (by have := O3.out; rwa [← BL] at this)
  rw [BL] at VB
  refine bodyPost_ret (results_tmp_row rfl _ _ w.heap.size 27 #[.int .u8 0, .int .u8 0, .bool false, .bool false] (0, 0) _ rfl (setRow_heap _ _ _ _ _ _ X3.out) Tryd.underlying27 rfl (by kernel_rfl)) rfl ⟨_, rfl, ?_, below_setRow (gr_tr D.out B3.out) (Nat.le_refl _) _⟩
  refine VB.chg (Chg.setRow (B := fun b => b = w.heap.size) w3 rfl _) (fun g o m c e => ?_)
  injection e with e1; injection e1 with e1; injection e1 with e1
  have := LT.out
  intro h; omega
end Go.Proofs.YthnnopjakpjoeaaDoor
