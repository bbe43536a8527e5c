/- Descriptions of pages: what their bytes are, and the walks of spare.fields, spare.check; an append of zeros to bytes that the call owns. -/
import Derived.Test.YteicmbapipnbjaaWireD
import Derived.Test.YteicmbapipnbjaaDigestD
import Derived.Test.YteicmbapipnbjaaApp
import Derived.Test.YteicmbapipnbjaaConcat
import Derived.Test.YteicmbapipnbjaaSpareA
import Derived.Lib.AppendZerosOnto
namespace Go.Proofs.Yteicmbapipnbjaa
open Go.RowKit
set_option linter.unusedVariables false
set_option linter.unusedSimpArgs false

theorem PartsV.lit {w : World} (cs : Array Value) (ty : TypeId) (fr : Nat × Nat) (ls : List (List (BitVec 8))) (n : Nat) (hn : n = ls.length) (hl : cs.size = n) (hm : n ≤ 9223372036854775807) (h : ∀ (i : Nat) (l : List (BitVec 8)), ls[i]? = some l → ∃ u, cs[i]? = some u ∧ BytesV w u l) :
    PartsV (w.alloc (.cells cs ty fr)) (.slice (some ⟨w.heap.size, 0, none⟩) n n) ls := by
  subst hn
  refine ⟨_, _, cs.toList, rfl, by simp, Nat.le_refl _, hm, Row.lit _ _ _ _, by simpa using hl, fun i l hi => ?_⟩
  obtain ⟨u, hu, hb⟩ := h i l hi
  exact ⟨u, by simpa using hu, hb.below (gr_alloc _ _)⟩
theorem lits2 {w : World} {u1 u2 : Value} {l1 l2 : List (BitVec 8)} (h1 : BytesV w u1 l1) (h2 : BytesV w u2 l2) : ∀ (i : Nat) (l : List (BitVec 8)), [l1, l2][i]? = some l → ∃ u, #[u1, u2][i]? = some u ∧ BytesV w u l := by
  intro i l h
  match i, h with
  | 0, h => simp at h; subst h; exact ⟨_, rfl, h1⟩
  | 1, h => simp at h; subst h; exact ⟨_, rfl, h2⟩
theorem zeros_list (n : Nat) : (Builtin.zeroCells (Value.int .u8 0).cells n).toList = by8 (List.replicate n 0#8) := by8_made n
theorem zeros_arr (n : Nat) : Builtin.zeroCells (Value.int .u8 0).cells n = (by8 (List.replicate n 0#8)).toArray := by
  apply Array.ext'; rw [zeros_list]
theorem run_room_zeros (w : World) (ty : TypeId) (g n cap : Nat) (cur : Array Value) (hg : w.heap[g]? = some (.cells cur 5 (0, 0))) (k : Nat) (h0 : 0 < k) (h48 : k ≤ 140737488355328) (hroom : n + k ≤ cap) (hfit : n + k ≤ cur.size) :
    (Builtin.append_ #[26, 3] ty #[.slice (some ⟨g, 0, none⟩) n cap, .int .i64 k]).run Try.prog w =
      .ok (.slice (some ⟨g, 0, none⟩) (n + k) cap) (w.setRow g (cur.toList.take n ++ by8 (List.replicate k 0#8) ++ cur.toList.drop (n + k)).toArray) := by
  obtain ⟨i, hi, hz, hs, hb⟩ := infoU8
  have hl : (by8 (List.replicate k 0#8)).length = k := by simp
  have hst := run_storeCells_at Try.prog g n 5 (by8 (List.replicate k 0#8)) 0 cur w hg (by rw [hl]; simpa using hfit) (by8_one _)
  simp only [Nat.add_zero, hl] at hst
  have hn : k ≠ 0 := by omega
  have hw : IntKind.i64.wrap (k : Int) = k := by rw [IntKind.wrap_i64]; omega
  have h48i : ¬ (281474976710656 < (k : Int) * (i.bytes : Int)) := by rw [hb]; omega
  have hneg : ¬ ((k : Int) < 0) := by omega
  have hzl := zeros_list k
  simp only [Value.cells] at hzl
  have hza := zeros_arr k
  simp only [Value.cells] at hza
  simp [Builtin.append_, run_underlying Try.underlying26, run_underlying Try.underlying3, sizeOf, typeInfo, zeroValue, hi, hz, hs, asInt, asIntOf, hw, hn, hneg, hroom, h48i, Addr.add_lit, Value.cells, hzl, hst]
theorem run_own_zeros (w : World) (ty : TypeId) (base : Nat) (v : Value) (l : List (BitVec 8)) (hown : w.ownsRow base 5 1 v l.length (by8 l)) (hl : 0 < l.length) (hbase : base ≤ w.heap.size) (k : Nat) (h0 : 0 < k) (h48 : l.length + k ≤ 140737488355328) :
    ∃ v' w', (Builtin.append_ #[26, 3] ty #[v, .int .i64 k]).run Try.prog w = .ok v' w' ∧ w'.ownsRow base 5 1 v' (l ++ List.replicate k 0#8).length (by8 (l ++ List.replicate k 0#8)) ∧ w.grownBy w' v.ownBlock := by
  have hn : (l ++ List.replicate k 0#8).length = l.length + k := by simp
  rw [hn, by8_append]
  have hlen : (by8 l ++ by8 (List.replicate k 0#8)).length = (l.length + k) * 1 := by simp
  rcases hown.2 with ⟨rfl, h⟩ | ⟨g, cap, cur, rfl, hbg, hg, hnc, hcm, hcs, htake⟩
  · omega
  · simp only [Nat.mul_one, by8_length] at hcs htake
    by_cases hroom : l.length + k ≤ cap
    · have hr := run_room_zeros w ty g l.length cap cur hg k h0 (by omega) hroom (by omega)
      refine ⟨_, _, hr, ⟨hlen, .inr ⟨g, cap, _, rfl, hbg, setRow_heap w g cur _ _ _ hg, hroom, hcm, ?_, ?_⟩⟩, ⟨rfl, rfl, rfl, by simp, fun j _ hj => setRow_other w g j _ (fun e => hj (by simp [Value.ownBlock, e]))⟩⟩
      · simp only [List.size_toArray, List.length_append, List.length_take, List.length_drop, Array.length_toList, by8_length, List.length_replicate]
        omega
      · simp only [htake]
        rw [← hlen]
        exact List.take_left
    · obtain ⟨i, hi, hz, hs, hb⟩ := infoU8
      have holds : ∀ j u, (by8 l)[j]? = some u → w.drew.cell? ((⟨g, 0, none⟩ : Addr).add j) = some u := by
        have := hown.cells (g := g) rfl
        simpa using this
      have hold := run_firstCells_some (P := Try.prog) w.drew 1 l.length ⟨g, 0, none⟩ l.length cap (by8 l) (by simp) holds
      have hr := Lib.run_append_grow_zeros (P := Try.prog) w 26 3 ty 5 i (.int .u8 0) .i64 .i64 Try.underlying26 Try.underlying3 hi hz (some ⟨g, 0, none⟩) l.length cap (by8 l) (by rw [hs]; exact hold) k h0 (by omega) (by omega) (by omega) (by rw [hb]; omega) (growslice_fits (by omega) (by rw [hb]; omega))
      have hge := grownCap_ge w (l.length + k) cap 5
      have hle := grownCap_le_maxLen w (l.length + k) cap 5 (by unfold maxLen; omega)
      refine ⟨_, _, hr, ⟨hlen, .inr ⟨w.heap.size, _, _, rfl, hbase, heap_alloc_new w.drew _, hge, hle, ?_, ?_⟩⟩, ⟨rfl, rfl, rfl, by simp, fun j hj _ => heap_alloc_old w.drew _ hj⟩⟩
      · simp only [Array.size_append, List.size_toArray, size_zeroCells, by8_length, Value.cells]
        simp
        omega
      · simp only [Array.toList_append, zeros_list]
        rw [← hlen]
        exact List.take_left
/-- 'append(own, make([]byte, k)...)'. -/
theorem app_zeros {ops : Array Oper} {rest : List Oper} {o : Oper} {a : Act} {Q : Exit → Act → World → Prop} {W : World} (hgd : o.guard = none) (s x : Operand) (ho : o.op = .call { callee := .builtin .append, args := #[s, x], argTypes := #[26, 3] })
    (u : Value) (base : Nat) (l : List (BitVec 8)) (hs : a.eval s = u) (hown : W.ownsRow base 5 1 u l.length (by8 l)) (hl : 0 < l.length) (hbase : base ≤ W.heap.size)
    (k : Nat) (hx : a.eval x = .int .i64 k) (h0 : 0 < k) (h48 : l.length + k ≤ 140737488355328)
    (h : ∀ v' w', w'.ownsRow base 5 1 v' (l ++ List.replicate k 0#8).length (by8 (l ++ List.replicate k 0#8)) → Below base W w' → wpList Try.prog ops Q rest (a.put o.dst v') w') : wpList Try.prog ops Q (o :: rest) a W := by
  obtain ⟨v', w', hr, h1, h2⟩ := run_own_zeros W o.type base u l hown hl hbase k h0 h48
  refine wpList_plain hgd fun K hK => ?_
  exact Lib.wp_append_run W s x _ _ ho _ _ hs hx v' w' hr (hK _ _ (h v' w' h1 ((Below.refl base W).grown h2 hbase (fun j hj => (hown.lt j hj).1))))

theorem Chg.new {B : Nat → Prop} {w w1 w2 : World} (h : Chg B w1 w2) (hb : Below w.heap.size w w1) (hq : ∀ k, B k → w.heap.size ≤ k) : Below w.heap.size w w2 :=
  ⟨h.os.trans hb.os, h.tape.trans hb.tape, h.output.trans hb.output, Nat.le_trans hb.size h.size, fun k hk => (h.block k (Nat.lt_of_lt_of_le hk hb.size) (fun hB => by have := hq k hB; omega)).trans (hb.block k hk)⟩
theorem allB_len (fl : List WF) : (Wire.allB fl).length ≤ 8 * fl.length := by
  unfold Wire.allB; split
  · exact Wire.cat_len fl
  · simp
theorem addL_nil (fl : List WF) (h : fl.length ≤ 100000) : addL [] (Wire.allB fl) (Wire.allE fl) = Wire.allB fl := by
  have hl := allB_len fl
  unfold addL addE
  by_cases he : Wire.allE fl = 0
  · have h1 : ¬ ((Wire.allB fl).length : Int) > 1048576 - (([] : List (BitVec 8)).length : Int) := by simp; omega
    simp [he, h1]
    intro h2; omega
  · simp [he, Wire.allB]
set_option maxHeartbeats 800000 in
theorem fields_any (u : Value) (fl : List WF) (b : List (BitVec 8)) (w : World) (hu : FieldsV w u fl) (hs : fl.length ≤ 100000) (hb : Wire.allB fl = b) :
    Calls Try.prog 21 #[u] w fun e w' => ∃ x, e = .returned x ∧ w'.ownsRow w.heap.size 5 1 x b.length (by8 b) ∧ Below w.heap.size w w' := by
  have hL : addL [] b (Wire.allE fl) = b := by rw [← hb]; exact addL_nil fl hs
  have U := Lib.hid (hu.below (gr_alloc w (.cells #[.slice none 0 0] 79)))
  have W0 := Lib.hid (show WrAt (w.alloc (.cells #[.slice none 0 0] 79)) w.heap.size w.heap.size (.slice none 0 0) [] from ⟨heap_alloc_new w _, World.ownsRow_nil _ _ _ _, by simp⟩)
  have HS := Lib.hid hs; have HB := Lib.hid hb; have HL := Lib.hid hL
  clear hu hs hb hL
  go_enter Try.func21, Try.ntmps21
  go_wp2_with (first
    | (go_at_call 40; refine (AddAll_any w.heap.size w.heap.size _ [] _ fl b _ _ W0.out U.out (gr_alloc w _).size HS.out HB.out rfl).mono ?_; rintro r w1 ⟨rfl, ⟨v', hw1, -⟩, hc⟩; rw [HL.out] at hw1; have W1 := Lib.hid hw1; have B1 := Lib.hid (Chg.new hc (gr_alloc w _) (fun k hk => by rcases hk with rfl | hk; exact Nat.le_refl _; simp [Value.ownBlock] at hk)); clear hw1 hc)
    | (go_at_call 41; refine (Bytes_w _ _ _ _ _ W1.out).mono ?_; rintro r w2 ⟨x, rfl, hown, hb2⟩; have O := Lib.hid (own_base hown B1.out.size); have B2 := Lib.hid (gr_tr B1.out hb2); clear hown hb2))
  go_ret
  exact ⟨_, rfl, O.out, B2.out⟩
set_option maxHeartbeats 800000 in
theorem check_at (v u : Value) (d l : List (BitVec 8)) (x : BitVec 64) (w : World) (hv : BytesV w v d) (hu : BytesV w u l) (h60 : 60 ≤ l.length) (hs : d.length ≤ 1000000) (hx : (Dig.crc32 (d ++ l.take 60)).setWidth 64 = x) :
    Calls Try.prog 23 #[v, u] w fun e w' => e = .returned (.int .u64 (uv x)) ∧ Below w.heap.size w w' := by
  obtain ⟨u6, hu6, -, hrun⟩ := hu.cut (P := Try.prog) (T := 26) Try.underlying26 (by kernel_rfl) 0 60 (by omega) h60
  have hrun : ∀ w', (Instr.slice 26 u none (some (.int .i64 60)) none).run Try.prog w' = .ok u6 w' := hrun rfl
  rw [List.drop_zero] at hu6
  have hf : [d, l.take 60].flatten = d ++ l.take 60 := by simp
  have hl : [d, l.take 60].flatten.length ≤ 140737488355328 := by rw [hf]; simp; omega
  obtain ⟨c, hc⟩ : ∃ c, Dig.crc32 (d ++ l.take 60) = c := ⟨_, rfl⟩
  rw [hc] at hx
  have P := Lib.hid (PartsV.lit #[v, u6] 26 (0, 0) [d, l.take 60] 2 rfl rfl (by omega) (lits2 hv hu6))
  have HF := Lib.hid hf; have HL := Lib.hid hl; have HC := Lib.hid hc
  subst hx
  obtain ⟨au, nu, cu, hsu⟩ : ∃ a n c, u = .slice a n c := by obtain ⟨a, c, rfl, _⟩ := hu; exact ⟨_, _, _, rfl⟩
  obtain ⟨av, nv', cv, hsv⟩ : ∃ a n c, v = .slice a n c := by obtain ⟨a, c, rfl, _⟩ := hv; exact ⟨_, _, _, rfl⟩
  obtain ⟨a6, n6, c6, hs6⟩ : ∃ a n c, u6 = .slice a n c := by obtain ⟨a, c, rfl, _⟩ := hu6; exact ⟨_, _, _, rfl⟩
  subst hsu hsv hs6
  clear hv hu hu6 hf hl hc h60 hs
  go_enter Try.func23, Try.ntmps23
  go_wp2_with (first
    | (go_at_call 22; refine (Concat_any _ _ _ P.out HL.out).mono ?_; rintro r w1 ⟨y, rfl, hown, hb1⟩; rw [HF.out] at hown; have Y := Lib.hid (BytesV.of_own hown); have B1 := Lib.hid (gr_tr (gr_alloc _ _) hb1); clear hown hb1)
    | (go_at_call 43; refine (CRC32C_any _ _ _ Y.out).mono ?_; rintro r w2 ⟨rfl, hb2⟩; rw [HC.out]; have B2 := Lib.hid (gr_tr B1.out hb2); clear hb2))
  go_ret
  exact ⟨rfl, B2.out⟩
end Go.Proofs.Yteicmbapipnbjaa
