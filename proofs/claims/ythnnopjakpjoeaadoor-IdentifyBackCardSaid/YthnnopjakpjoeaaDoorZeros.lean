/- append(own, make([]byte, k)...), own empty or not. (Out of XSpareB.) -/
import Derived.Test.YthnnopjakpjoeaaDoorApp
import Derived.Lib.AppendZeros
import Derived.Lib.AppendZerosOnto
namespace Go.Proofs.YthnnopjakpjoeaaDoor
open Go.RowKit
set_option linter.unusedVariables false
set_option linter.unusedSimpArgs false
theorem infoZ : ∃ i, Tryd.prog.info? 5 = some i ∧ i.zero = some (.int .u8 0) ∧ i.size = 1 ∧ i.bytes = 1 := info_parts (by kernel_rfl)
theorem zeros_list (n : Nat) : (Builtin.zeroCells (Value.int .u8 0).cells n).toList = by8 (List.replicate n 0#8) := by8_made n
theorem zeros_arr (n : Nat) : Builtin.zeroCells (Value.int .u8 0).cells n = (by8 (List.replicate n 0#8)).toArray := by
  apply Array.ext'; rw [zeros_list]
theorem run_room_zeros (w : World) (ty : TypeId) (g n cap : Nat) (cur : Array Value) (hg : w.heap[g]? = some (.cells cur 5 (0, 0))) (k : Nat) (h0 : 0 < k) (h48 : k ≤ 140737488355328) (hroom : n + k ≤ cap) (hfit : n + k ≤ cur.size) :
    (Builtin.append_ #[22, 3] ty #[.slice (some ⟨g, 0, none⟩) n cap, .int .i64 k]).run Tryd.prog w =
      .ok (.slice (some ⟨g, 0, none⟩) (n + k) cap) (w.setRow g (cur.toList.take n ++ by8 (List.replicate k 0#8) ++ cur.toList.drop (n + k)).toArray) := by
  obtain ⟨i, hi, hz, hs, hb⟩ := infoZ
  have hl : (by8 (List.replicate k 0#8)).length = k := by simp
  have hst := run_storeCells_at Tryd.prog g n 5 (by8 (List.replicate k 0#8)) 0 cur w hg (by rw [hl]; simpa using hfit) (by8_one _)
  simp only [Nat.add_zero, hl] at hst
  have hn : k ≠ 0 := by omega
  have hw : IntKind.i64.wrap (k : Int) = k := by rw [IntKind.wrap_i64]; omega
  have h48i : ¬ (281474976710656 < (k : Int) * (i.bytes : Int)) := by rw [hb]; omega
  have hneg : ¬ ((k : Int) < 0) := by omega
  have hzl := zeros_list k
  simp only [Value.cells] at hzl
  have hza := zeros_arr k
  simp only [Value.cells] at hza
  simp [Builtin.append_, run_underlying Tryd.underlying22, run_underlying Tryd.underlying3, sizeOf, typeInfo, zeroValue, hi, hz, hs, asInt, asIntOf, hw, hn, hneg, hroom, h48i, Addr.add_lit, Value.cells, hzl, hst]
theorem run_own_zeros (w : World) (ty : TypeId) (base : Nat) (v : Value) (l : List (BitVec 8)) (hown : w.ownsRow base 5 1 v l.length (by8 l)) (hbase : base ≤ w.heap.size) (k : Nat) (h0 : 0 < k) (h48 : l.length + k ≤ 140737488355328) :
    ∃ v' w', (Builtin.append_ #[22, 3] ty #[v, .int .i64 k]).run Tryd.prog w = .ok v' w' ∧ w'.ownsRow base 5 1 v' (l ++ List.replicate k 0#8).length (by8 (l ++ List.replicate k 0#8)) ∧ w.grownBy w' v.ownBlock := by
  have hn : (l ++ List.replicate k 0#8).length = l.length + k := by simp
  rw [hn, by8_append]
  have hlen : (by8 l ++ by8 (List.replicate k 0#8)).length = (l.length + k) * 1 := by simp
  rcases hown.2 with ⟨rfl, h⟩ | ⟨g, cap, cur, rfl, hbg, hg, hnc, hcm, hcs, htake⟩
  · have hl0 : l = [] := List.length_eq_zero_iff.1 h
    subst hl0
    obtain ⟨i, hi, hz, hs, hb⟩ := infoZ
    have hr := Lib.run_append_nil_zeros (P := Tryd.prog) w 22 3 ty 5 i (.int .u8 0) .i64 .i64 Tryd.underlying22 Tryd.underlying3 hi hz k h0 (by omega) (by simp at h48; omega) (by rw [hb]; simp at h48; omega)
    have hge := grownCap_ge w k 0 5
    have hle := grownCap_le_maxLen w k 0 5 (by unfold maxLen; simp at h48; omega)
    have e0 : ([] : List (BitVec 8)).length + k = k := by simp
    rw [e0]
    refine ⟨_, _, hr, ⟨by simp, .inr ⟨w.heap.size, _, _, rfl, hbase, heap_alloc_new w.drew _, hge, hle, ?_, ?_⟩⟩, ⟨rfl, rfl, rfl, by simp, fun j hj _ => heap_alloc_old w.drew _ hj⟩⟩
    · simp only [Array.size_append, size_zeroCells, Value.cells]
      simp
      omega
    · simp only [Array.toList_append, zeros_list]
      rw [show k * 1 = (by8 (List.replicate k 0#8)).length by simp]
      exact List.take_left
  · simp only [Nat.mul_one, by8_length] at hcs htake
    by_cases hroom : l.length + k ≤ cap
    · have hr := run_room_zeros w ty g l.length cap cur hg k h0 (by omega) hroom (by omega)
      refine ⟨_, _, hr, ⟨hlen, .inr ⟨g, cap, _, rfl, hbg, setRow_heap w g cur _ _ _ hg, hroom, hcm, ?_, ?_⟩⟩, ⟨rfl, rfl, rfl, by simp, fun j _ hj => setRow_other w g j _ (fun e => hj (by simp [Value.ownBlock, e]))⟩⟩
      · simp only [List.size_toArray, List.length_append, List.length_take, List.length_drop, Array.length_toList, by8_length, List.length_replicate]
        omega
      · simp only [htake]
        rw [← hlen]
        exact List.take_left
    · obtain ⟨i, hi, hz, hs, hb⟩ := infoZ
      have holds : ∀ j u, (by8 l)[j]? = some u → w.drew.cell? ((⟨g, 0, none⟩ : Addr).add j) = some u := by
        have := hown.cells (g := g) rfl
        simpa using this
      have hold := run_firstCells_some (P := Tryd.prog) w.drew 1 l.length ⟨g, 0, none⟩ l.length cap (by8 l) (by simp) holds
      have hr := Lib.run_append_grow_zeros (P := Tryd.prog) w 22 3 ty 5 i (.int .u8 0) .i64 .i64 Tryd.underlying22 Tryd.underlying3 hi hz (some ⟨g, 0, none⟩) l.length cap (by8 l) (by rw [hs]; exact hold) k h0 (by omega) (by omega) (by omega) (by rw [hb]; omega) (growslice_fits (by omega) (by rw [hb]; omega))
      have hge := grownCap_ge w (l.length + k) cap 5
      have hle := grownCap_le_maxLen w (l.length + k) cap 5 (by unfold maxLen; omega)
      refine ⟨_, _, hr, ⟨hlen, .inr ⟨w.heap.size, _, _, rfl, hbase, heap_alloc_new w.drew _, hge, hle, ?_, ?_⟩⟩, ⟨rfl, rfl, rfl, by simp, fun j hj _ => heap_alloc_old w.drew _ hj⟩⟩
      · simp only [Array.size_append, List.size_toArray, size_zeroCells, by8_length, Value.cells]
        simp
        omega
      · simp only [Array.toList_append, zeros_list]
        rw [← hlen]
        exact List.take_left
/-- 'append(own, make([]byte, k)...)'. -/
theorem app_zeros {ops : Array Oper} {rest : List Oper} {o : Oper} {a : Act} {Q : Exit → Act → World → Prop} {W : World} (hgd : o.guard = none) (s x : Operand) (ho : o.op = .call { callee := .builtin .append, args := #[s, x], argTypes := #[22, 3] })
    (u : Value) (base : Nat) (l : List (BitVec 8)) (hs : a.eval s = u) (hown : W.ownsRow base 5 1 u l.length (by8 l)) (hbase : base ≤ W.heap.size)
    (k : Nat) (hx : a.eval x = .int .i64 k) (h0 : 0 < k) (h48 : l.length + k ≤ 140737488355328)
    (h : ∀ v' w', w'.ownsRow base 5 1 v' (l ++ List.replicate k 0#8).length (by8 (l ++ List.replicate k 0#8)) → Below base W w' → wpList Tryd.prog ops Q rest (a.put o.dst v') w') : wpList Tryd.prog ops Q (o :: rest) a W := by
  obtain ⟨v', w', hr, h1, h2⟩ := run_own_zeros W o.type base u l hown hbase k h0 h48
  refine wpList_plain hgd fun K hK => ?_
  exact Lib.wp_append_run W s x _ _ ho _ _ hs hx v' w' hr (hK _ _ (h v' w' h1 ((Below.refl base W).grown h2 hbase (fun j hj => (hown.lt j hj).1))))

end Go.Proofs.YthnnopjakpjoeaaDoor
