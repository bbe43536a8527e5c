/- Merged: IdIdD, IdIdR, BackMath, Law24A, Law24B, CtlM, DecC, Law24K. -/
import Derived.Test.YthnnopjakpjoeaaDoorIdDec
import Derived.Test.YthnnopjakpjoeaaDoorIdIDs
import Derived.Test.YthnnopjakpjoeaaDoorDecNs
import Derived.Test.YthnnopjakpjoeaaDoorDecZn
import Derived.Test.YthnnopjakpjoeaaDoorSelfEq
import Derived.Test.YthnnopjakpjoeaaDoorOpenG
import Derived.Test.YthnnopjakpjoeaaDoorIdList
import Derived.Test.YthnnopjakpjoeaaDoorIdE
import Derived.Shelf.Strings.SlTrimAscii
import Derived.Test.YthnnopjakpjoeaaDoorGuarded
namespace Go.Proofs.YthnnopjakpjoeaaDoor
open Go.RowKit Idn
set_option linter.unusedVariables false
set_option linter.unusedSimpArgs false
namespace Idn
def lenI : Nat → Nat | 0 => 8 | _ => 16
def atI (l : List (BitVec 8)) : Nat → Nat
  | 0 => 0
  | k + 1 => if l[atI l k]? == some (BitVec.ofNat 8 (k + 1)) then atI l k + (4 + lenI k) else atI l k
def hitI (l : List (BitVec 8)) (k : Nat) : Bool := l[atI l k]? == some (BitVec.ofNat 8 (k + 1))
def prI (l : List (BitVec 8)) (k : Nat) : List (BitVec 8) := if hitI l k then cutL l (atI l k + 4) (lenI k) else List.replicate (lenI k) 0#8
def setI (l : List (BitVec 8)) : BitVec 8 := if hitI l 3 then l.getD (atI l 3 + 4) 0#8 + 1#8 else 0#8
/-- What is read of bytes. -/
def rdI (l : List (BitVec 8)) : Ids := ⟨prI l 0, prI l 1, prI l 2, setI l⟩
def idsZ : Ids := ⟨List.replicate 8 0#8, List.replicate 16 0#8, List.replicate 16 0#8, 0#8⟩
/-- The first k parts have been read. -/
def idsK (l : List (BitVec 8)) (k : Nat) : Ids := ⟨if 0 < k then prI l 0 else List.replicate 8 0#8, if 1 < k then prI l 1 else List.replicate 16 0#8, if 2 < k then prI l 2 else List.replicate 16 0#8, 0#8⟩
theorem lenI_le (k : Nat) : lenI k ≤ 16 := by cases k <;> simp [lenI]
theorem atI_succ (l : List (BitVec 8)) (k : Nat) : atI l (k + 1) = if hitI l k then atI l k + (4 + lenI k) else atI l k := rfl
theorem atI_le (l : List (BitVec 8)) (k : Nat) : atI l k ≤ 20 * k := by
  induction k with
  | zero => exact Nat.le_refl _
  | succ k ih =>
    have := lenI_le k
    rw [atI_succ]; split <;> omega
theorem prI_len {l : List (BitVec 8)} (hl : l.length = 4096) (k : Nat) (hk : k < 4) : (prI l k).length = lenI k := by
  unfold prI
  have := atI_le l k; have := lenI_le k
  split
  · exact cutL_len (by omega)
  · exact List.length_replicate
theorem rdI_ok {l : List (BitVec 8)} (hl : l.length = 4096) : Ids.Ok (rdI l) := ⟨prI_len hl 0 (by omega), prI_len hl 1 (by omega), prI_len hl 2 (by omega)⟩
theorem idsK_ok {l : List (BitVec 8)} (hl : l.length = 4096) (k : Nat) : Ids.Ok (idsK l k) := by
  refine ⟨?_, ?_, ?_⟩ <;> (unfold idsK; dsimp only; split)
  · exact prI_len hl 0 (by omega)
  · rfl
  · exact prI_len hl 1 (by omega)
  · rfl
  · exact prI_len hl 2 (by omega)
  · rfl
def offI : Nat → Nat | 0 => 0 | 1 => 8 | _ => 24
def putI (y : Ids) (k : Nat) (c : List (BitVec 8)) : Ids := match k with | 0 => { y with e := c } | 1 => { y with g := c } | _ => { y with u := c }
theorem cells_put (y : Ids) (hy : Ids.Ok y) (k : Nat) (hk : k < 3) (c : List (BitVec 8)) (hc : c.length = lenI k) :
    ((Ids.cells y).take (offI k) ++ (by8 c ++ (Ids.cells y).drop (offI k + c.length))) = Ids.cells (putI y k c) := by
  obtain ⟨h1, h2, h3⟩ := hy
  rw [Ids.cells_eq, Ids.cells_eq]
  have hk3 : k = 0 ∨ k = 1 ∨ k = 2 := by omega
  rcases hk3 with rfl | rfl | rfl
  · simp only [lenI] at hc
    simp only [offI, putI, List.take_zero, List.nil_append, Nat.zero_add, hc]
    congr 1
    exact List.drop_left' (by rw [by8_length, h1])
  · simp only [lenI] at hc
    simp only [offI, putI, hc]
    rw [List.take_left' (by rw [by8_length, h1])]
    congr 2
    rw [← List.append_assoc]
    exact List.drop_left' (by rw [List.length_append, by8_length, by8_length, h1, h2])
  · simp only [lenI] at hc
    simp only [offI, putI, hc]
    have e1 : (by8 y.e ++ (by8 y.g ++ (by8 y.u ++ [Value.int .u8 (uv y.set)]))).take 24 = by8 y.e ++ by8 y.g := by
      rw [← List.append_assoc, List.take_left' (by rw [List.length_append, by8_length, by8_length, h1, h2])]
    have e2 : (by8 y.e ++ (by8 y.g ++ (by8 y.u ++ [Value.int .u8 (uv y.set)]))).drop (24 + 16) = [Value.int .u8 (uv y.set)] := by
      rw [← List.append_assoc, ← List.append_assoc, List.drop_left' (by rw [List.length_append, List.length_append, by8_length, by8_length, by8_length, h1, h2, h3])]
    rw [e1, e2, List.append_assoc]
theorem cells_set (y : Ids) (hy : Ids.Ok y) (s : BitVec 8) : ((Ids.cells y).toArray.setIfInBounds 40 (.int .u8 (uv s))) = (Ids.cells { y with set := s }).toArray := by
  obtain ⟨h1, h2, h3⟩ := hy
  apply Array.ext'
  rw [Array.toList_setIfInBounds]
  show (Ids.cells y).set 40 _ = _
  rw [Ids.cells_eq, Ids.cells_eq, ← List.append_assoc, ← List.append_assoc, ← List.append_assoc, ← List.append_assoc, List.set_append_right _ _ (by simp [h1, h2, h3])]
  simp [h1, h2, h3]
theorem idsK_next (l : List (BitVec 8)) (k : Nat) (hk : k < 3) (c : List (BitVec 8)) (hc : prI l k = c) : putI (idsK l k) k c = idsK l (k + 1) := by
  subst hc
  have hk3 : k = 0 ∨ k = 1 ∨ k = 2 := by omega
  rcases hk3 with rfl | rfl | rfl <;> rfl
theorem idsK_same (l : List (BitVec 8)) (k : Nat) (hk : k < 3) (h : hitI l k = false) : idsK l k = idsK l (k + 1) := by
  have e : prI l k = List.replicate (lenI k) 0#8 := by unfold prI; rw [h]; rfl
  have hk3 : k = 0 ∨ k = 1 ∨ k = 2 := by omega
  rcases hk3 with rfl | rfl | rfl <;> (simp only [lenI] at e; simp [idsK, e])
theorem idsK_3 (l : List (BitVec 8)) : { idsK l 3 with set := setI l } = rdI l := rfl
end Idn
theorem run_fromO (g o n c p : Nat) (hp : p ≤ n) (hnc : n ≤ c) (hpc : p < c) (hc : c ≤ 9223372036854775807) (w' : World) :
    (Instr.slice 22 (.slice (some ⟨g, o, none⟩) n c) (some (.int .i64 p)) none none).run Tryd.prog w' = .ok (.slice (some ⟨g, o + p, none⟩) (n - p) (c - p)) w' := by
  have he : Tryd.prog.elem 22 = 5 := by simp [Program.elem, Tryd.underlying22]
  have ht' : Tryd.prog.underlying 22 = some (.slice (Tryd.prog.elem 22)) := by rw [he]; exact Tryd.underlying22
  have hz : (sizeOf (Tryd.prog.elem 22)).run Tryd.prog w' = .ok 1 w' := by
    rw [he]
    obtain ⟨i, hi, hi'⟩ := Option.map_eq_some_iff.1 bszU
    simp [sizeOf, typeInfo, hi, hi']
  rw [run_slice_l w' 22 (some ⟨g, o, none⟩) n c ht' .i64 p (by omega) (by omega), hz]
  simp only [Result.andThen, sliced, Option.map_some, Nat.mul_one, Addr.add_lit, Int.toNat_natCast]
  rw [if_neg (by omega)]
/-- 'copy(id, x)': a part of identifiers that lie in a block. -/
theorem copy_part {ops : Array Oper} {rest : List Oper} {o : Oper} {a : Act} {Q : Exit → Act → World → Prop} {W : World} (hgd : o.guard = none) (d s : Operand) (ho : o.op = .call { callee := .builtin .copy, args := #[d, s], argTypes := #[22, 22] })
    (X k : Nat) (hk : k < 3) (y : Ids) (hy : Ids.Ok y) (T : TypeId) (hx : W.heap[X]? = some (.cells (Ids.cells y).toArray T (0, 0))) (hd : a.eval d = .slice (some ⟨X, offI k, none⟩) (lenI k) (lenI k))
    (v : Value) (l c : List (BitVec 8)) (hs : a.eval s = v) (hv : BytesV W v l) (hl : lenI k ≤ l.length) (hc : l.take (lenI k) = c)
    (h : wpList Tryd.prog ops Q rest (a.put o.dst (goInt c.length)) (W.setRow X (Ids.cells (putI y k c)).toArray)) : wpList Tryd.prog ops Q (o :: rest) a W := by
  obtain ⟨av, cv, rfl, n1, n2, n3, n4⟩ := hv
  have h16 : 0 < lenI k := by cases k <;> simp [lenI]
  have hcl : c.length = lenI k := by rw [← hc, List.length_take]; omega
  obtain ⟨ad, rfl, hsrc⟩ := n4.src (by intro e; have h0 := congrArg List.length e; rw [by8_length, List.length_nil] at h0; omega)
  have hsz : (Ids.cells y).toArray.size = 41 := by rw [List.size_toArray, Ids.cells_eq]; simp [hy.1, hy.2.1, hy.2.2]
  have hoff : offI k + lenI k ≤ 40 := by
    have hk3 : k = 0 ∨ k = 1 ∨ k = 2 := by omega
    rcases hk3 with rfl | rfl | rfl <;> simp [offI, lenI]
  refine wpList_copy_own hgd d s _ _ ho 5 Tryd.underlying22 bszU X (offI k) (lenI k) (lenI k) ad l.length cv hd hs (Ids.cells y).toArray T hx (by8 c) (by rw [by8_length, hcl]; exact (Nat.min_eq_right hl).symm) (fun j u hj => hsrc j u ?_) (by rw [by8_length, hsz]; omega) (by8_one c) ?_
  · rw [by8_get] at hj ⊢
    rw [← hc] at hj
    have hj2 : j < lenI k := by
      by_cases e : j < lenI k
      · exact e
      · rw [List.getElem?_take_eq_none (by omega)] at hj; cases hj
    rw [List.getElem?_take_of_lt hj2] at hj
    exact hj
  · rw [by8_length]
    have := cells_put y hy k hk c hcl
    rw [this]
    exact h
end Go.Proofs.YthnnopjakpjoeaaDoor
namespace Go.Proofs.YthnnopjakpjoeaaDoor
open Go.RowKit Idn
set_option linter.unusedVariables false
set_option linter.unusedSimpArgs false
set_option maxRecDepth 20000 in
theorem wpList_index3 {ops : Array Oper} {rest : List Oper} {op : Oper} {a : Act} {w : World} {Q : Exit → Act → World → Prop} (hgd : op.guard = none) (x i : Operand) (ho : op.op = .index 183 x i) (s0 s1 s2 : Value)
    (hx : a.eval x = .agg #[s0, s1, s2]) (k : Int) (hi : a.eval i = .int .i64 k) (v : Value)
    (hv : (k = 0 ∧ v = s0) ∨ (k = 1 ∧ v = s1) ∨ (k = 2 ∧ v = s2))
    (h : wpList Tryd.prog ops Q rest (a.put op.dst v) w) : wpList Tryd.prog ops Q (op :: rest) a w := by
  refine wpList_plain hgd fun _ hK => ?_
  have hr : (Instr.index 183 (.agg #[s0, s1, s2]) (.int .i64 k)).run Tryd.prog w = .ok v w := by
    rcases hv with ⟨rfl, rfl⟩ | ⟨rfl, rfl⟩ | ⟨rfl, rfl⟩ <;> rfl
  unfold Oper.wp execOp
  simp only [ho, hx, hi, Sem.run_bind, Sem.run_pure, Result.andThen_ok, hr]
  exact hK _ _ h
theorem BytesV.dropN {w : World} {n c : Nat} {l : List (BitVec 8)} {g o : Nat} (h : BytesV w (.slice (some ⟨g, o, none⟩) n c) l) (p : Nat) (hp : p ≤ l.length) : BytesV w (.slice (some ⟨g, o + p, none⟩) (n - p) (c - p)) (l.drop p) := by
  obtain ⟨a', c', e, h0, h1, h2, h3⟩ := h
  injection e with e1 e2 e3
  subst e1 e3 e2
  have hl : (l.drop p).length = l.length - p := List.length_drop
  refine ⟨some ⟨g, o + p, none⟩, c - p, by rw [hl], (fun ha => by cases ha), by rw [hl]; omega, by omega, ?_⟩
  have := h3.drop p
  unfold by8 at this ⊢
  rw [List.map_drop]; exact this
theorem Ids.cells_one (x : Ids) : (Ids.cells x).toArray.all (·.oneCell') = true := by
  rw [Ids.cells_eq, List.all_toArray, List.all_eq_true]
  intro u hu
  simp only [List.mem_append, List.mem_singleton] at hu
  rcases hu with hu | hu | hu | hu
  · exact by8_one _ u hu
  · exact by8_one _ u hu
  · exact by8_one _ u hu
  · subst hu; rfl
set_option maxHeartbeats 6400000 in
set_option maxRecDepth 100000 in
theorem readI_at (X bbox : Nat) (bv : Value) (l : List (BitVec 8)) (w : World) (hb : BytesV w bv l) (hl : l.length = 4096) (hbb : w.heap[bbox]? = some (.cells #[bv] 22 (0, 0))) (hoff : Off (fun b => b = X) bv) (hne : ¬ bbox = X)
    (hx : w.heap[X]? = some (.cells (Ids.cells idsZ).toArray 76 (0, 0))) :
    Calls Tryd.prog 95 #[.pointer (some ⟨X, 0, none⟩), .pointer (some ⟨bbox, 0, none⟩)] w fun e w' => e = .returned (.tuple #[]) ∧ w'.heap[X]? = some (.cells (Ids.cells (rdI l)).toArray 76 (0, 0)) ∧ Chg (fun b => b = X) w w' := by
  obtain ⟨g, o, cv, rfl⟩ := hb.shapeAt (by omega)
  rw [hl] at hb hbb hoff
  have hcv : 4096 ≤ cv ∧ cv ≤ 9223372036854775807 := by obtain ⟨_, _, e, _, h1, h2, _⟩ := hb; injection e with _ _ e; rw [e, ← hl]; exact ⟨h1, h2⟩
  have BV := Lib.hid hb; have HX := Lib.hid hx; have OFF := Lib.hid hoff; have HL := Lib.hid hl; have HCV := Lib.hid hcv
  have cb : w.cell? ⟨bbox, 0, none⟩ = some (.slice (some ⟨g, o, none⟩) 4096 cv) := (cell_of_row _ _ 0 _ _ _ hbb).trans rfl
  clear hb hbb hl hoff hx hcv
  go_enter Tryd.func95, Tryd.ntmps95
  go_upto_region 1 with (fail)
  refine wp_region_planW nowhere [(true, 0), (true, 1), (true, 2), (true, 3), (true, 4), (true, 5), (true, 6), (true, 7), (true, 8), (true, 9), (true, 10), (true, 11), (true, 12), (true, 13)] (by kernel_rfl) (by kernel_rfl) (by intro c a d v w h; cases d <;> exact h) ?_
  intro W1 K1 C1
  repeat (refine wpS_firm rfl (fun K hK => ?_); simp only [Keep]; go_simp; refine hK _ ?_; clear hK K)
  unfold wpS
  clear cb
  have BV1 := Lib.hid (BV.out.below C1.out)
  have HX1 := Lib.hid (blk_below HX.out C1.out)
  go_wp2
  go_loopw [3, 20] (fun r i wr => ∃ k : Nat, k ≤ 3 ∧ i = .int .i64 k ∧ (∃ a, Hid (atI l k = a) ∧ r = .slice (some ⟨g, o + a, none⟩) (4096 - a) (cv - a)) ∧ wr.heap[X]? = some (.cells (Ids.cells (idsK l k)).toArray 76 (0, 0)) ∧ Chg (fun b => b = X) W1 wr) (fun _ i _ => 3 - (intOf i).toNat)
  case atStart => exact ⟨0, by omega, rfl, ⟨0, rfl, rfl⟩, HX1.out, Chg.refl _ _⟩
  case round =>
    obtain ⟨k, hk, rfl, ⟨a, ha, rfl⟩, hx, hc⟩ := hrel
    have XR := Lib.hid hx; have CR := Lib.hid hc
    have haL := atI_le l k
    rw [ha.out] at haL
    have hA60 : a ≤ 60 := by omega
    obtain ⟨N, hN⟩ : ∃ N, 4096 - a = N := ⟨_, rfl⟩
    obtain ⟨C, hC⟩ : ∃ C, cv - a = C := ⟨_, rfl⟩
    rw [hN, hC]
    have hN57 : 57 ≤ N := by omega
    have hNC : N ≤ C := by have := HCV.out; omega
    have hCm : C ≤ 9223372036854775807 := by have := HCV.out; omega
    have BR := Lib.hid (show BytesV wr (.slice (some ⟨g, o + a, none⟩) N C) (l.drop a) by have := (BV1.out.chg hc OFF.out).dropN a (by have := HL.out; omega); rwa [hN, hC] at this)
    have HN := Lib.hid hN; have HC := Lib.hid hC
    obtain ⟨y, hy⟩ : ∃ y, l[a]? = some y := ⟨_, List.getElem?_eq_getElem (by have := HL.out; omega)⟩
    have c0 : wr.cell? ⟨g, o + a, none⟩ = some (.int .u8 (uv y)) := by
      have := (BV1.out.chg hc OFF.out).cellAt hy
      exact this
    have HY := Lib.hid hy; have HA := ha
    obtain ⟨hit, hhit⟩ : ∃ b, hitI l k = b := ⟨_, rfl⟩
    have HH := Lib.hid hhit
    have hk4 : k = 0 ∨ k = 1 ∨ k = 2 ∨ k = 3 := by omega
    clear hx hc haL hN hC hy ha hhit hk
    rcases hk4 with rfl | rfl | rfl | rfl
    · have e : ((0 : Nat) : Int) = 0 := rfl
      rw [e]; clear e
      have hq : (y == 1#8) = hit := by
        have h := HH.out
        unfold hitI at h
        rw [HA.out, HY.out] at h
        rw [← h]
        exact (rfl : (y == 1#8) = (some y == some 1#8))
      have hat := atI_succ l 0
      rw [HH.out, HA.out] at hat
      cases hit
      · have HAT := Lib.hid hat
        have HSM := Lib.hid (idsK_same l 0 (by omega) HH.out)
        clear hat
        go_wp2_with (refine wpList_index3 rfl (.tmp 19) (.tmp 20) rfl _ _ _ rfl 0 rfl (.slice (some ⟨X, 0, none⟩) 8 8) (by simp) ?_)
        go_roundw
        case rel => exact ⟨1, by omega, rfl, ⟨a, Lib.hid (by have := HAT.out; simpa using this), by rw [← HN.out, ← HC.out]⟩, by rw [← HSM.out]; exact XR.out, CR.out⟩
        case measure => simp [intOf]
      · have HAT := Lib.hid hat
        obtain ⟨c, hc⟩ : ∃ c, prI l 0 = c := ⟨_, rfl⟩
        have hcl : c.length = 8 := by rw [← hc]; exact prI_len HL.out 0 (by omega)
        have htk : (l.drop (a + 4)).take (lenI 0) = c := by rw [← hc]; unfold prI; rw [HH.out, HA.out]; rfl
        have hnx := idsK_next l 0 (by omega) c hc
        have hr4 := run_fromO g (o + a) N C 4 (by omega) (by omega) (by omega) (by omega)
        have hr12 := run_fromO g (o + a) N C 12 (by omega) (by omega) (by omega) (by omega)
        have BR4 := Lib.hid (show BytesV wr (.slice (some ⟨g, o + a + 4, none⟩) (N - 4) (C - 4)) (l.drop (a + 4)) by have := BR.out.dropN 4 (by rw [List.length_drop, HL.out]; omega); rwa [List.drop_drop] at this)
        have HCL := Lib.hid hcl; have HTK := Lib.hid htk; have HNX := Lib.hid hnx
        clear hat hc hcl htk hnx
        go_wp2_with (first
          | (refine wpList_index3 rfl (.tmp 19) (.tmp 20) rfl _ _ _ rfl 0 rfl (.slice (some ⟨X, 0, none⟩) 8 8) (by simp) ?_)
          | (refine copy_part rfl (.tmp 31) (.tmp 33) rfl X 0 (by omega) (idsK l 0) (idsK_ok HL.out 0) 76 XR.out rfl (.slice (some ⟨g, o + a + 4, none⟩) (N - 4) (C - 4)) (l.drop (a + 4)) c rfl BR4.out (by rw [List.length_drop, HL.out]; simp only [lenI]; omega) HTK.out ?_; rw [HNX.out]))
        go_roundw
        case rel => exact ⟨1, by omega, rfl, ⟨a + 12, Lib.hid (by have := HAT.out; simpa [lenI] using this), by rw [Nat.add_assoc, ← HN.out, ← HC.out, Nat.sub_sub, Nat.sub_sub]⟩, setRow_heap _ _ _ _ _ _ XR.out, CR.out.trans (Chg.setRow (B := fun b => b = X) (g := X) _ rfl _)⟩
        case measure => simp [intOf]
    · have e : ((1 : Nat) : Int) = 1 := rfl
      rw [e]; clear e
      have hq : (y == 2#8) = hit := by
        have h := HH.out
        unfold hitI at h
        rw [HA.out, HY.out] at h
        rw [← h]
        exact (rfl : (y == 2#8) = (some y == some 2#8))
      have hat := atI_succ l 1
      rw [HH.out, HA.out] at hat
      cases hit
      · have HAT := Lib.hid hat
        have HSM := Lib.hid (idsK_same l 1 (by omega) HH.out)
        clear hat
        go_wp2_with (refine wpList_index3 rfl (.tmp 19) (.tmp 20) rfl _ _ _ rfl 1 rfl (.slice (some ⟨X, 8, none⟩) 16 16) (by simp) ?_)
        go_roundw
        case rel => exact ⟨2, by omega, rfl, ⟨a, Lib.hid (by have := HAT.out; simpa using this), by rw [← HN.out, ← HC.out]⟩, by rw [← HSM.out]; exact XR.out, CR.out⟩
        case measure => simp [intOf]
      · have HAT := Lib.hid hat
        obtain ⟨c, hc⟩ : ∃ c, prI l 1 = c := ⟨_, rfl⟩
        have hcl : c.length = 16 := by rw [← hc]; exact prI_len HL.out 1 (by omega)
        have htk : (l.drop (a + 4)).take (lenI 1) = c := by rw [← hc]; unfold prI; rw [HH.out, HA.out]; rfl
        have hnx := idsK_next l 1 (by omega) c hc
        have hr4 := run_fromO g (o + a) N C 4 (by omega) (by omega) (by omega) (by omega)
        have hr12 := run_fromO g (o + a) N C 20 (by omega) (by omega) (by omega) (by omega)
        have BR4 := Lib.hid (show BytesV wr (.slice (some ⟨g, o + a + 4, none⟩) (N - 4) (C - 4)) (l.drop (a + 4)) by have := BR.out.dropN 4 (by rw [List.length_drop, HL.out]; omega); rwa [List.drop_drop] at this)
        have HCL := Lib.hid hcl; have HTK := Lib.hid htk; have HNX := Lib.hid hnx
        clear hat hc hcl htk hnx
        go_wp2_with (first
          | (refine wpList_index3 rfl (.tmp 19) (.tmp 20) rfl _ _ _ rfl 1 rfl (.slice (some ⟨X, 8, none⟩) 16 16) (by simp) ?_)
          | (refine copy_part rfl (.tmp 31) (.tmp 33) rfl X 1 (by omega) (idsK l 1) (idsK_ok HL.out 1) 76 XR.out rfl (.slice (some ⟨g, o + a + 4, none⟩) (N - 4) (C - 4)) (l.drop (a + 4)) c rfl BR4.out (by rw [List.length_drop, HL.out]; simp only [lenI]; omega) HTK.out ?_; rw [HNX.out]))
        go_roundw
        case rel => exact ⟨2, by omega, rfl, ⟨a + 20, Lib.hid (by have := HAT.out; simpa [lenI] using this), by rw [Nat.add_assoc, ← HN.out, ← HC.out, Nat.sub_sub, Nat.sub_sub]⟩, setRow_heap _ _ _ _ _ _ XR.out, CR.out.trans (Chg.setRow (B := fun b => b = X) (g := X) _ rfl _)⟩
        case measure => simp [intOf]
    · have e : ((2 : Nat) : Int) = 2 := rfl
      rw [e]; clear e
      have hq : (y == 3#8) = hit := by
        have h := HH.out
        unfold hitI at h
        rw [HA.out, HY.out] at h
        rw [← h]
        exact (rfl : (y == 3#8) = (some y == some 3#8))
      have hat := atI_succ l 2
      rw [HH.out, HA.out] at hat
      cases hit
      · have HAT := Lib.hid hat
        have HSM := Lib.hid (idsK_same l 2 (by omega) HH.out)
        clear hat
        go_wp2_with (refine wpList_index3 rfl (.tmp 19) (.tmp 20) rfl _ _ _ rfl 2 rfl (.slice (some ⟨X, 24, none⟩) 16 16) (by simp) ?_)
        go_roundw
        case rel => exact ⟨3, by omega, rfl, ⟨a, Lib.hid (by have := HAT.out; simpa using this), by rw [← HN.out, ← HC.out]⟩, by rw [← HSM.out]; exact XR.out, CR.out⟩
        case measure => simp [intOf]
      · have HAT := Lib.hid hat
        obtain ⟨c, hc⟩ : ∃ c, prI l 2 = c := ⟨_, rfl⟩
        have hcl : c.length = 16 := by rw [← hc]; exact prI_len HL.out 2 (by omega)
        have htk : (l.drop (a + 4)).take (lenI 2) = c := by rw [← hc]; unfold prI; rw [HH.out, HA.out]; rfl
        have hnx := idsK_next l 2 (by omega) c hc
        have hr4 := run_fromO g (o + a) N C 4 (by omega) (by omega) (by omega) (by omega)
        have hr12 := run_fromO g (o + a) N C 20 (by omega) (by omega) (by omega) (by omega)
        have BR4 := Lib.hid (show BytesV wr (.slice (some ⟨g, o + a + 4, none⟩) (N - 4) (C - 4)) (l.drop (a + 4)) by have := BR.out.dropN 4 (by rw [List.length_drop, HL.out]; omega); rwa [List.drop_drop] at this)
        have HCL := Lib.hid hcl; have HTK := Lib.hid htk; have HNX := Lib.hid hnx
        clear hat hc hcl htk hnx
        go_wp2_with (first
          | (refine wpList_index3 rfl (.tmp 19) (.tmp 20) rfl _ _ _ rfl 2 rfl (.slice (some ⟨X, 24, none⟩) 16 16) (by simp) ?_)
          | (refine copy_part rfl (.tmp 31) (.tmp 33) rfl X 2 (by omega) (idsK l 2) (idsK_ok HL.out 2) 76 XR.out rfl (.slice (some ⟨g, o + a + 4, none⟩) (N - 4) (C - 4)) (l.drop (a + 4)) c rfl BR4.out (by rw [List.length_drop, HL.out]; simp only [lenI]; omega) HTK.out ?_; rw [HNX.out]))
        go_roundw
        case rel => exact ⟨3, by omega, rfl, ⟨a + 20, Lib.hid (by have := HAT.out; simpa [lenI] using this), by rw [Nat.add_assoc, ← HN.out, ← HC.out, Nat.sub_sub, Nat.sub_sub]⟩, setRow_heap _ _ _ _ _ _ XR.out, CR.out.trans (Chg.setRow (B := fun b => b = X) (g := X) _ rfl _)⟩
        case measure => simp [intOf]
    · have e : ((3 : Nat) : Int) = 3 := rfl
      rw [e]; clear e
      have hq : (y == 4#8) = hit := by
        have h := HH.out
        unfold hitI at h
        rw [HA.out, HY.out] at h
        rw [← h]
        exact (rfl : (y == 4#8) = (some y == some 4#8))
      have hq2 : (uv y == 4) = hit := by rw [← hq]; exact uv_beq y 4#8
      cases hit
      · go_wp2
        go_end0
        refine ⟨rfl, ?_, (Chg.of_below C1.out).trans CR.out⟩
        rw [← idsK_3, show setI l = 0#8 by unfold setI; rw [HH.out]; rfl]
        exact XR.out
      · obtain ⟨z, hz⟩ : ∃ z, l[a + 4]? = some z := ⟨_, List.getElem?_eq_getElem (by have := HL.out; omega)⟩
        have c4 : wr.cell? ⟨g, o + a + 4, none⟩ = some (.int .u8 (uv z)) := by
          have := BR.out.cellAt (i := 4) (by rw [List.getElem?_drop]; exact hz)
          exact this
        have HZ := Lib.hid hz
        clear hz
        have cX := (cell_of_row _ _ 40 _ _ _ XR.out).trans (show (Ids.cells (idsK l 3)).toArray[40]? = some (.int .u8 0) by
          have hok := idsK_ok HL.out 3
          rw [List.getElem?_toArray, Ids.cells_eq, ← List.append_assoc, ← List.append_assoc, List.getElem?_append_right (by simp [hok.1, hok.2.1, hok.2.2])]
          simp [hok.1, hok.2.1, hok.2.2]; rfl)
        have fX := frozen_of_row _ _ 40 _ _ XR.out
        go_wp2
        go_end0
        refine ⟨rfl, ?_, (Chg.of_below C1.out).trans (CR.out.trans (Chg.setCell (B := fun b => b = X) (p := ⟨X, 40, none⟩) _ rfl _))⟩
        have hs : setI l = z + 1#8 := by unfold setI; rw [HH.out, HA.out, List.getD_eq_getElem?_getD, HZ.out]; rfl
        rw [← idsK_3, hs, ← cells_set _ (idsK_ok HL.out 3)]
        exact heap_setCell_same _ _ _ _ _ _ XR.out
namespace Idn
def okI (x : Ids) : Bool := decide (x.e.length = 8 ∧ x.g.length = 16 ∧ x.u.length = 16)
theorem okI_ok {x : Ids} (h : okI x = true) : Ids.Ok x := (of_decide_eq_true h : x.e.length = 8 ∧ x.g.length = 16 ∧ x.u.length = 16)
theorem okI_rd {l : List (BitVec 8)} (hl : l.length = 4096) : okI (rdI l) = true := by unfold okI; exact decide_eq_true (rdI_ok hl)
theorem cells_sz {x : Ids} (h : Ids.Ok x) : (Ids.cells x).toArray.size = 41 := by rw [List.size_toArray, Ids.cells_eq]; simp [h.1, h.2.1, h.2.2]
theorem decI_ok {l : List (BitVec 8)} {y : Ids} {e : Int} (h : decV rdI okI idsB idsZ l = (y, e)) : Ids.Ok y := by
  unfold decV at h
  split at h
  · cases h; exact ⟨rfl, rfl, rfl⟩
  · split at h
    · cases h; exact ⟨rfl, rfl, rfl⟩
    · split at h
      · cases h; exact rdI_ok (by omega)
      · cases h; exact ⟨rfl, rfl, rfl⟩
end Idn
set_option maxRecDepth 100000 in
theorem EncI2_at (x : Ids) (w : World) (h : okI x = true) : Calls Tryd.prog 96 #[.agg (Ids.cells x).toArray] w fun e w' => ∃ u, e = .returned (.tuple #[u, .int .i64 0]) ∧ BytesV w' u (idsB x) ∧ Below w.heap.size w w' := by
  have hok := okI_ok h
  have hs := cells_sz hok
  obtain ⟨cs, hcs⟩ : ∃ cs, (Ids.cells x).toArray = cs := ⟨_, rfl⟩
  have HCS := Lib.hid hcs; have HOK := Lib.hid hok; have HS := Lib.hid (show cs.size = 41 by rw [← hcs]; exact hs)
  rw [hcs]
  clear hcs hok hs h
  go_enter Tryd.func96, Tryd.ntmps96
  go_wp2_with (first
    | (refine wpList_load_row rfl 76 (.tmp 1) rfl w.heap.size rfl 76 cs (0, 0) _ (heap_alloc_new w _) Tryd.underlying76 rfl (by rw [HS.out]; kernel_rfl) ?_)
    | (go_at_call 38; go_loud (rw [← HCS.out]; refine (EncI_at x _ HOK.out).mono ?_; rintro r w3 ⟨u, rfl, hu, hw⟩; have U := Lib.hid hu; have D := Lib.hid (gr_tr (gr_alloc w _) hw); clear hu hw)))
  go_ret2
  exact ⟨_, rfl, U.out, by first | exact D.out | (rw [← HCS.out]; exact D.out)⟩
set_option maxRecDepth 100000 in
theorem Ids_lit : (Ids.cells idsZ).toArray = #[.int .u8 0, .int .u8 0, .int .u8 0, .int .u8 0, .int .u8 0, .int .u8 0, .int .u8 0, .int .u8 0, .int .u8 0, .int .u8 0, .int .u8 0, .int .u8 0, .int .u8 0, .int .u8 0, .int .u8 0, .int .u8 0, .int .u8 0, .int .u8 0, .int .u8 0, .int .u8 0, .int .u8 0, .int .u8 0, .int .u8 0, .int .u8 0, .int .u8 0, .int .u8 0, .int .u8 0, .int .u8 0, .int .u8 0, .int .u8 0, .int .u8 0, .int .u8 0, .int .u8 0, .int .u8 0, .int .u8 0, .int .u8 0, .int .u8 0, .int .u8 0, .int .u8 0, .int .u8 0, .int .u8 0] := by rfl
set_option maxHeartbeats 6400000 in
set_option maxRecDepth 100000 in
theorem decoded_Ids (l : List (BitVec 8)) (bv : Value) (bbox : Nat) (w : World) (y : Ids) (e : Int) (hb : BytesV w bv l) (hl : l.length ≤ 140737488355328) (hbb : w.heap[bbox]? = some (.cells #[bv] 22 (0, 0))) (hd : decV rdI okI idsB idsZ l = (y, e)) :
    Calls Tryd.prog 94 #[bv, .func (.func 95) #[] #[.pointer (some ⟨bbox, 0, none⟩)], .func (.func 96) #[] #[]] w fun r w' => r = .returned (.tuple #[.agg (Ids.cells y).toArray, .int .i64 e]) ∧ Below w.heap.size w w' := by
  obtain ⟨av, cv, rfl, hv0, hv1, hv2, hv3⟩ := id hb
  have hm : l.length ≤ 9223372036854775807 := by omega
  have BV := Lib.hid hb; have BB := Lib.hid hbb
  have SidsZ := Lib.hid (show (Ids.cells idsZ).toArray.size = 41 by rw [Ids_lit]; rfl)
  obtain ⟨V, hV⟩ : ∃ V, V = w.alloc (.cells (Ids.cells idsZ).toArray 76) := ⟨_, rfl⟩
  have DV := Lib.hid (show Below w.heap.size w V by rw [hV]; exact gr_alloc w _)
  have XV := Lib.hid (show V.heap[w.heap.size]? = some (.cells (Ids.cells idsZ).toArray 76 (0, 0)) by rw [hV]; exact heap_alloc_new w _)
  have VS := Lib.hid (show w.heap.size < V.heap.size by rw [hV]; simp)
  rw [Ids_lit] at hV
  have HV := Lib.hid hV
  clear hb hbb hv0 hv1 hv2 hv3 hV
  unfold decV at hd
  by_cases p1 : l.length < 4096
  · rw [if_pos p1] at hd
    cases hd
    have d1 : decide ((l.length : Int) < 4096) = true := decide_eq_true (by omega)
    clear p1
    go_enter Tryd.func94, Tryd.ntmps94
    go_upto_region 1 with (fail)
    rw [← HV.out]
    go_wp2_with (first
      | (refine wpList_load_row rfl 76 (.tmp 6) rfl w.heap.size rfl 76 _ (0, 0) _ XV.out Tryd.underlying76 rfl (by rw [SidsZ.out]; kernel_rfl) ?_)
      | (refine wpList_store_row rfl 76 (.tmp 6) (.tmp 15) rfl w.heap.size (Ids.cells idsZ).toArray rfl rfl 76 _ XV.out (by rw [SidsZ.out]; kernel_rfl) rfl (Ids.cells_one _) ?_))
    exact bodyPost_ret (results_row_tmp rfl _ _ w.heap.size 76 (Ids.cells idsZ).toArray (0, 0) _ rfl (setRow_heap _ _ _ _ _ _ XV.out) Tryd.underlying76 rfl (by rw [SidsZ.out]; kernel_rfl)) rfl ⟨rfl, below_setRow DV.out (Nat.le_refl _) _⟩
  · rw [if_neg p1] at hd
    by_cases p2 : 4096 < l.length
    · rw [if_pos p2] at hd
      cases hd
      have d1 : decide ((l.length : Int) < 4096) = false := decide_eq_false (by omega)
      have d2 : decide (4096 < (l.length : Int)) = true := decide_eq_true (by omega)
      clear p1 p2
      go_enter Tryd.func94, Tryd.ntmps94
      go_upto_region 1 with (fail)
      rw [← HV.out]
      go_wp2_with (first
        | (refine wpList_load_row rfl 76 (.tmp 6) rfl w.heap.size rfl 76 _ (0, 0) _ XV.out Tryd.underlying76 rfl (by rw [SidsZ.out]; kernel_rfl) ?_)
        | (refine wpList_store_row rfl 76 (.tmp 6) (.tmp 20) rfl w.heap.size (Ids.cells idsZ).toArray rfl rfl 76 _ XV.out (by rw [SidsZ.out]; kernel_rfl) rfl (Ids.cells_one _) ?_))
      exact bodyPost_ret (results_row_tmp rfl _ _ w.heap.size 76 (Ids.cells idsZ).toArray (0, 0) _ rfl (setRow_heap _ _ _ _ _ _ XV.out) Tryd.underlying76 rfl (by rw [SidsZ.out]; kernel_rfl)) rfl ⟨rfl, below_setRow DV.out (Nat.le_refl _) _⟩
    · rw [if_neg p2] at hd
      have d1 : decide ((l.length : Int) < 4096) = false := decide_eq_false (by omega)
      have d2 : decide (4096 < (l.length : Int)) = false := decide_eq_false (by omega)
      have hl4 : l.length = 4096 := by omega
      have HD := Lib.hid hd; have HL4 := Lib.hid hl4
      clear p1 p2 hd hl4
      obtain ⟨x, hx⟩ : ∃ x, rdI l = x := ⟨_, rfl⟩
      have HX := Lib.hid hx
      have SZX := Lib.hid (show (Ids.cells x).toArray.size = 41 by (rw [← HX.out]; exact cells_sz (rdI_ok HL4.out)))
      clear hx
      obtain ⟨bo, hbo⟩ : ∃ b, okI x = b := ⟨_, rfl⟩
      have HO := Lib.hid hbo; clear hbo
      obtain ⟨W, hW⟩ : ∃ W, W = V.alloc (.cells (Ids.cells idsZ).toArray 76) := ⟨_, rfl⟩
      have D := Lib.hid (show Below w.heap.size w W by rw [hW]; exact gr_tr DV.out (gr_alloc V _))
      have XA := Lib.hid (show W.heap[w.heap.size]? = some (.cells (Ids.cells idsZ).toArray 76 (0, 0)) by rw [hW]; exact blk_below XV.out (gr_alloc V _))
      have XB := Lib.hid (show W.heap[V.heap.size]? = some (.cells (Ids.cells idsZ).toArray 76 (0, 0)) by rw [hW]; exact heap_alloc_new V _)
      rw [Ids_lit] at hW
      have HW := Lib.hid hW; clear hW
      have HBW := Lib.hid (Array.getElem?_eq_some_iff.1 BB.out).1
      have hgl : ∀ g o n c, Value.slice av l.length cv = .slice (some ⟨g, o, none⟩) n c → g < w.heap.size := slice_lt BV.out (by rw [HL4.out]; decide)
      have GL := Lib.hid hgl; clear hgl
      go_enter Tryd.func94, Tryd.ntmps94
      go_upto_region 1 with (fail)
      rw [← HV.out]
      go_upto_region 6 with (fail)
      rw [← HW.out]
      go_upto_region 7 with (go_at_call 95; go_loud (refine (readI_at V.heap.size bbox _ l _ (BV.out.below D.out) HL4.out (blk_below BB.out D.out) (fun g o n c e h => by have := GL.out g o n c e; have := VS.out; omega) (fun h => by have := HBW.out; have := VS.out; omega) XB.out).mono ?_; rw [HX.out]; rintro r w3 ⟨rfl, hx3, hc⟩; have X3 := Lib.hid hx3; have C3 := Lib.hid hc; have D3 := Lib.hid (hc.fresh D.out (fun k h => by have := VS.out; omega)); have A3 := Lib.hid (hc.blk XA.out (by have := VS.out; omega)); have BV3 := Lib.hid (BV.out.below D3.out); clear hx3 hc))
      cases bo
      · exact absurd HO.out (by rw [← HX.out, okI_rd HL4.out]; simp)
      · have EN := Lib.hid (fun W => EncI2_at x W HO.out)
        obtain ⟨bq, hbq⟩ : ∃ b, (idsB x == l) = b := ⟨_, rfl⟩
        have HQ := Lib.hid hbq; clear hbq
        cases bq
        · skip
          go_wp2_with (first
            | (refine wpList_load_row rfl 76 (.tmp 8) rfl V.heap.size rfl 76 _ (0, 0) _ X3.out Tryd.underlying76 rfl (by rw [SZX.out]; kernel_rfl) ?_)
            | (refine wpList_load_row rfl 76 (.tmp 6) rfl w.heap.size rfl 76 _ (0, 0) _ A4.out Tryd.underlying76 rfl (by rw [SidsZ.out]; kernel_rfl) ?_)
            | (refine wpList_store_row rfl 76 (.tmp 6) (.tmp 37) rfl w.heap.size (Ids.cells idsZ).toArray rfl rfl 76 _ A4.out (by rw [SidsZ.out]; kernel_rfl) rfl (Ids.cells_one _) ?_)
            | (go_at_call 96; go_loud (refine (EN.out _).mono ?_; rintro r w4 ⟨u, rfl, hu, hw⟩; have U := Lib.hid hu; have D4 := Lib.hid (gr_tr D3.out hw); have A4 := Lib.hid (blk_below A3.out hw); have X4 := Lib.hid (blk_below X3.out hw); have BV4 := Lib.hid (BV3.out.below hw); clear hu hw))
            | (go_at_call 128; go_loud (refine (Equal_at _ _ _ _ _ _ U.out BV4.out HQ.out).mono ?_; rintro r w5 ⟨rfl, rfl⟩)))
          obtain ⟨e1, e2⟩ : y = idsZ ∧ e = 6 := by
            have h := HD.out
            rw [HX.out, HO.out, HQ.out] at h
            simp at h
            exact ⟨h.1.symm, h.2.symm⟩
          rw [e1, e2]
          exact bodyPost_ret (results_row_tmp rfl _ _ w.heap.size 76 (Ids.cells idsZ).toArray (0, 0) _ rfl (setRow_heap _ _ _ _ _ _ A4.out) Tryd.underlying76 rfl (by rw [SidsZ.out]; kernel_rfl)) rfl ⟨rfl, below_setRow D4.out (Nat.le_refl _) _⟩
        · skip
          go_wp2_with (first
            | (refine wpList_load_row rfl 76 (.tmp 8) rfl V.heap.size rfl 76 _ (0, 0) _ X3.out Tryd.underlying76 rfl (by rw [SZX.out]; kernel_rfl) ?_)
            | (refine wpList_load_row rfl 76 (.tmp 8) rfl V.heap.size rfl 76 _ (0, 0) _ X4.out Tryd.underlying76 rfl (by rw [SZX.out]; kernel_rfl) ?_)
            | (refine wpList_store_row rfl 76 (.tmp 6) (.tmp 38) rfl w.heap.size (Ids.cells x).toArray rfl rfl 76 _ A4.out (by rw [SZX.out]; kernel_rfl) (by rw [SZX.out, SidsZ.out]) (Ids.cells_one _) ?_)
            | (go_at_call 96; go_loud (refine (EN.out _).mono ?_; rintro r w4 ⟨u, rfl, hu, hw⟩; have U := Lib.hid hu; have D4 := Lib.hid (gr_tr D3.out hw); have A4 := Lib.hid (blk_below A3.out hw); have X4 := Lib.hid (blk_below X3.out hw); have BV4 := Lib.hid (BV3.out.below hw); clear hu hw))
            | (go_at_call 128; go_loud (refine (Equal_at _ _ _ _ _ _ U.out BV4.out HQ.out).mono ?_; rintro r w5 ⟨rfl, rfl⟩)))
          obtain ⟨e1, e2⟩ : y = x ∧ e = 0 := by
            have h := HD.out
            rw [HX.out, HO.out, HQ.out] at h
            simp at h
            exact ⟨h.1.symm, h.2.symm⟩
          rw [e1, e2]
          exact bodyPost_ret (results_row_tmp rfl _ _ w.heap.size 76 (Ids.cells x).toArray (0, 0) _ rfl (setRow_heap _ _ _ _ _ _ A4.out) Tryd.underlying76 rfl (by rw [SZX.out]; kernel_rfl)) rfl ⟨rfl, below_setRow D4.out (Nat.le_refl _) _⟩
set_option maxHeartbeats 6400000 in
set_option maxRecDepth 100000 in
theorem Decode_Ids (l : List (BitVec 8)) (bv : Value) (w : World) (y : Ids) (e : Int) (hsz : (Ids.cells y).toArray.size = 41) (hb : BytesV w bv l) (hl : l.length ≤ 140737488355328) (hd : decV rdI okI idsB idsZ l = (y, e)) :
    Calls Tryd.prog 37 #[bv] w fun r w' => r = .returned (.tuple #[.agg (Ids.cells y).toArray, .int .i64 e]) ∧ Below w.heap.size w w' := by
  have hmf : ∀ (fn : Fn) (first cap : Array Value) (w : World), (Instr.makeFunc fn first cap).run Tryd.prog w = .ok (.func fn first cap) w := fun _ _ _ _ => rfl
  obtain ⟨av, cv, rfl, hv0, hv1, hv2, hv3⟩ := id hb
  have SidsZ := Lib.hid (show (Ids.cells idsZ).toArray.size = 41 by rw [Ids_lit]; rfl)
  have HSZ := Lib.hid hsz
  clear hsz
  obtain ⟨bv, hbv⟩ : ∃ v, v = Value.slice av l.length cv := ⟨_, rfl⟩
  have BV := Lib.hid (show BytesV w bv l by rw [hbv]; exact hb); have HD := Lib.hid hd
  rw [← hbv]
  clear hv0 hv1 hv2 hv3
  obtain ⟨W, hW⟩ : ∃ W, W = (w.alloc (.cells #[bv] 22)).alloc (.cells (Ids.cells idsZ).toArray 76) := ⟨_, rfl⟩
  have D := Lib.hid (show Below w.heap.size w W by rw [hW]; exact gr_tr (gr_alloc w _) (gr_alloc _ _))
  have BB := Lib.hid (show W.heap[w.heap.size]? = some (.cells #[bv] 22 (0, 0)) by rw [hW]; exact blk_below (heap_alloc_new w _) (gr_alloc _ _))
  have XB := Lib.hid (show W.heap[w.heap.size + 1]? = some (.cells (Ids.cells idsZ).toArray 76 (0, 0)) by rw [hW]; have := heap_alloc_new (w.alloc (.cells #[bv] 22)) (.cells (Ids.cells idsZ).toArray 76); rwa [World.size_alloc] at this)
  rw [Ids_lit] at hW
  have HW := Lib.hid hW
  have cb : W.cell? ⟨w.heap.size, 0, none⟩ = some bv := (cell_of_row _ _ 0 _ _ _ BB.out).trans rfl
  have HBV := Lib.hid hbv
  clear hW hb hd
  rw [HBV.out] at HW BV BB cb ⊢
  clear hbv
  go_enter Tryd.func37, Tryd.ntmps37
  go_upto_region 1 with (fail)
  rw [← HW.out]
  go_wp2_with (first
    | (go_at_call 94; go_loud (refine (decoded_Ids l _ w.heap.size _ y e (BV.out.below D.out) hl BB.out HD.out).mono ?_; rintro r w3 ⟨rfl, hw⟩; have D3 := Lib.hid (gr_tr D.out hw); have X3 := Lib.hid (blk_below XB.out hw); clear hw))
    | (refine wpList_store_row rfl 76 (.tmp 2) (.tmp 7) rfl (w.heap.size + 1) (Ids.cells y).toArray rfl rfl 76 _ X3.out (by rw [HSZ.out]; kernel_rfl) (by rw [HSZ.out, SidsZ.out]) (Ids.cells_one _) ?_))
  exact bodyPost_ret (results_row_tmp rfl _ _ (w.heap.size + 1) 76 (Ids.cells y).toArray (0, 0) _ rfl (setRow_heap _ _ _ _ _ _ X3.out) Tryd.underlying76 rfl (by rw [HSZ.out]; kernel_rfl)) rfl ⟨rfl, below_setRow D3.out (by omega) _⟩
end Go.Proofs.YthnnopjakpjoeaaDoor
namespace Go.Proofs.YthnnopjakpjoeaaDoor
open Go.RowKit Idn Go.ChangeShapes Go.WideShapes Go.ChangeAt
set_option linter.unusedVariables false
set_option linter.unusedSimpArgs false
namespace Idn
structure Blk where
  ms : BitVec 16
  sz : BitVec 8
  pf : BitVec 8
def Blk.cells (x : Blk) : List Value := [.int .u16 (uv x.ms), .int .u8 (uv x.sz), .int .u8 (uv x.pf)]
def Blk.R (w : World) (x : Blk) : Prop := True ∧ True ∧ True
theorem Blk.cells_len : ∀ y, (Blk.cells y).length = 3 := fun _ => rfl
set_option maxRecDepth 100000 in
theorem opens_Blk (w : World) : Opens Tryd.prog w 68 Blk Blk.cells (Blk.R w) := by
  intro H enc sp held fuel cs x h
  obtain ⟨hl, hfs⟩ := trod_fields Tryd.underlying68 h
  rw [show Tryd.prog.cellsOf 68 = 3 by kernel_rfl] at hl
  obtain ⟨y0, a0, r0⟩ := opens_field hfs 0 _ rfl 0 1 rfl (by kernel_rfl) (opens_u16 Tryd.underlying36)
  obtain ⟨y1, a1, r1⟩ := opens_field hfs 1 _ rfl 1 1 rfl (by kernel_rfl) (opens_u8 Tryd.underlying5)
  obtain ⟨y2, a2, r2⟩ := opens_field hfs 2 _ rfl 2 1 rfl (by kernel_rfl) (opens_u8 Tryd.underlying5)
  have e := (glue a0 (by decide : 0 + 1 = 1) (glue a1 (by decide : 1 + 1 = 2) (glue a2 (by decide : 2 + 1 = 3) (glue_end hl))))
  rw [List.drop_zero] at e
  exact ⟨⟨y0, y1, y2⟩, e, ⟨r0, r1, r2⟩⟩
structure NsR where
  f0 : BitVec 64
  f1 : BitVec 64
  f2 : BitVec 64
  f3 : BitVec 8
  f4 : BitVec 8
  f5 : BitVec 8
  f6 : BitVec 8
  f7 : BitVec 8
  f8 : BitVec 8
  f9 : BitVec 8
  f10 : BitVec 8
  f11 : BitVec 16
  f12 : BitVec 16
  f13 : BitVec 16
  f14 : BitVec 32
  f15 : BitVec 64
  guid : List (BitVec 8)
  blocks : List (Blk)
def NsR.cells (x : NsR) : List Value := [.int .u64 (uv x.f0)] ++ ([.int .u64 (uv x.f1)] ++ ([.int .u64 (uv x.f2)] ++ ([.int .u8 (uv x.f3)] ++ ([.int .u8 (uv x.f4)] ++ ([.int .u8 (uv x.f5)] ++ ([.int .u8 (uv x.f6)] ++ ([.int .u8 (uv x.f7)] ++ ([.int .u8 (uv x.f8)] ++ ([.int .u8 (uv x.f9)] ++ ([.int .u8 (uv x.f10)] ++ ([.int .u16 (uv x.f11)] ++ ([.int .u16 (uv x.f12)] ++ ([.int .u16 (uv x.f13)] ++ ([.int .u32 (uv x.f14)] ++ ([.int .u64 (uv x.f15)] ++ ((x.guid.flatMap (fun y : BitVec 8 => [.int .u8 (uv y)])) ++ ((x.blocks.flatMap Blk.cells) ++ ([]))))))))))))))))))
def NsR.R (w : World) (x : NsR) : Prop := True ∧ True ∧ True ∧ True ∧ True ∧ True ∧ True ∧ True ∧ True ∧ True ∧ True ∧ True ∧ True ∧ True ∧ True ∧ True ∧ (x.guid.length = 16 ∧ ∀ y ∈ x.guid, (fun _ : BitVec 8 => True) y) ∧ (x.blocks.length = 16 ∧ ∀ y ∈ x.blocks, (Blk.R w) y)
set_option maxRecDepth 100000 in
theorem opens_NsR (w : World) : Opens Tryd.prog w 71 NsR NsR.cells (NsR.R w) := by
  intro H enc sp held fuel cs x h
  obtain ⟨hl, hfs⟩ := trod_fields Tryd.underlying71 h
  rw [show Tryd.prog.cellsOf 71 = 80 by kernel_rfl] at hl
  obtain ⟨y0, a0, r0⟩ := opens_field hfs 0 _ rfl 0 1 rfl (by kernel_rfl) (opens_u64 Tryd.underlying23)
  obtain ⟨y1, a1, r1⟩ := opens_field hfs 1 _ rfl 1 1 rfl (by kernel_rfl) (opens_u64 Tryd.underlying23)
  obtain ⟨y2, a2, r2⟩ := opens_field hfs 2 _ rfl 2 1 rfl (by kernel_rfl) (opens_u64 Tryd.underlying23)
  obtain ⟨y3, a3, r3⟩ := opens_field hfs 3 _ rfl 3 1 rfl (by kernel_rfl) (opens_u8 Tryd.underlying5)
  obtain ⟨y4, a4, r4⟩ := opens_field hfs 4 _ rfl 4 1 rfl (by kernel_rfl) (opens_u8 Tryd.underlying5)
  obtain ⟨y5, a5, r5⟩ := opens_field hfs 5 _ rfl 5 1 rfl (by kernel_rfl) (opens_u8 Tryd.underlying5)
  obtain ⟨y6, a6, r6⟩ := opens_field hfs 6 _ rfl 6 1 rfl (by kernel_rfl) (opens_u8 Tryd.underlying5)
  obtain ⟨y7, a7, r7⟩ := opens_field hfs 7 _ rfl 7 1 rfl (by kernel_rfl) (opens_u8 Tryd.underlying5)
  obtain ⟨y8, a8, r8⟩ := opens_field hfs 8 _ rfl 8 1 rfl (by kernel_rfl) (opens_u8 Tryd.underlying5)
  obtain ⟨y9, a9, r9⟩ := opens_field hfs 9 _ rfl 9 1 rfl (by kernel_rfl) (opens_u8 Tryd.underlying5)
  obtain ⟨y10, a10, r10⟩ := opens_field hfs 10 _ rfl 10 1 rfl (by kernel_rfl) (opens_u8 Tryd.underlying5)
  obtain ⟨y11, a11, r11⟩ := opens_field hfs 11 _ rfl 11 1 rfl (by kernel_rfl) (opens_u16 Tryd.underlying36)
  obtain ⟨y12, a12, r12⟩ := opens_field hfs 12 _ rfl 12 1 rfl (by kernel_rfl) (opens_u16 Tryd.underlying36)
  obtain ⟨y13, a13, r13⟩ := opens_field hfs 13 _ rfl 13 1 rfl (by kernel_rfl) (opens_u16 Tryd.underlying36)
  obtain ⟨y14, a14, r14⟩ := opens_field hfs 14 _ rfl 14 1 rfl (by kernel_rfl) (opens_u32 Tryd.underlying24)
  obtain ⟨y15, a15, r15⟩ := opens_field hfs 15 _ rfl 15 1 rfl (by kernel_rfl) (opens_u64 Tryd.underlying23)
  obtain ⟨y16, a16, r16⟩ := opens_field hfs 16 _ rfl 16 16 rfl (by kernel_rfl) ((opens_array (k := 1) Tryd.underlying66 (by kernel_rfl) (by kernel_rfl) (fun _ => rfl) (opens_u8 Tryd.underlying5)))
  obtain ⟨y17, a17, r17⟩ := opens_field hfs 17 _ rfl 32 48 rfl (by kernel_rfl) ((opens_array (k := 3) Tryd.underlying69 (by kernel_rfl) (by kernel_rfl) Blk.cells_len ((opens_Blk w))))
  have e := (glue a0 (by decide : 0 + 1 = 1) (glue a1 (by decide : 1 + 1 = 2) (glue a2 (by decide : 2 + 1 = 3) (glue a3 (by decide : 3 + 1 = 4) (glue a4 (by decide : 4 + 1 = 5) (glue a5 (by decide : 5 + 1 = 6) (glue a6 (by decide : 6 + 1 = 7) (glue a7 (by decide : 7 + 1 = 8) (glue a8 (by decide : 8 + 1 = 9) (glue a9 (by decide : 9 + 1 = 10) (glue a10 (by decide : 10 + 1 = 11) (glue a11 (by decide : 11 + 1 = 12) (glue a12 (by decide : 12 + 1 = 13) (glue a13 (by decide : 13 + 1 = 14) (glue a14 (by decide : 14 + 1 = 15) (glue a15 (by decide : 15 + 1 = 16) (glue a16 (by decide : 16 + 16 = 32) (glue a17 (by decide : 32 + 48 = 80) (glue_end hl)))))))))))))))))))
  rw [List.drop_zero] at e
  exact ⟨⟨y0, y1, y2, y3, y4, y5, y6, y7, y8, y9, y10, y11, y12, y13, y14, y15, y16, y17⟩, e, ⟨r0, r1, r2, r3, r4, r5, r6, r7, r8, r9, r10, r11, r12, r13, r14, r15, r16, r17⟩⟩
/-- Cells that hold numbers of the kinds. -/
def KF : List Kd → List Value → Prop
  | [], [] => True
  | k :: ks, c :: cs => (∃ x : BitVec 64, k.trunc x = x ∧ c = k.val x) ∧ KF ks cs
  | _, _ => False
theorem KF.app : ∀ {a : List Kd} {c : List Value} {b : List Kd} {d : List Value}, KF a c → KF b d → KF (a ++ b) (c ++ d)
  | [], [], _, _, _, h2 => h2
  | _ :: _, _ :: _, _, _, h1, h2 => ⟨h1.1, KF.app h1.2 h2⟩
  | [], _ :: _, _, _, h1, _ => h1.elim
  | _ :: _, [], _, _, h1, _ => h1.elim
theorem KF.nums : ∀ {ks : List Kd} {cs : List Value}, KF ks cs → ∃ vs : List (BitVec 64), vs.length = ks.length ∧ cs = (ks.zip vs).map (fun p => p.1.val p.2) ∧ ∀ p ∈ ks.zip vs, p.1.trunc p.2 = p.2
  | [], [], _ => ⟨[], rfl, rfl, fun p hp => by simp at hp⟩
  | k :: ks, c :: cs, h => by
    obtain ⟨⟨x, h1, h2⟩, h3⟩ := h
    obtain ⟨vs, e1, e2, e3⟩ := KF.nums h3
    refine ⟨x :: vs, by rw [List.length_cons, e1, List.length_cons], by rw [List.zip_cons_cons, List.map_cons, ← e2, h2], fun p hp => ?_⟩
    rw [List.zip_cons_cons] at hp
    rcases List.mem_cons.1 hp with rfl | hp
    · exact h1
    · exact e3 p hp
  | [], _ :: _, h => h.elim
  | _ :: _, [], h => h.elim
theorem kf8 (y : BitVec 8) : ∃ x : BitVec 64, Kd.u8.trunc x = x ∧ Value.int .u8 (uv y) = Kd.u8.val x := ⟨y.setWidth 64, by simp [Kd.trunc], by simp [Kd.val]⟩
theorem kf16 (y : BitVec 16) : ∃ x : BitVec 64, Kd.u16.trunc x = x ∧ Value.int .u16 (uv y) = Kd.u16.val x := ⟨y.setWidth 64, by simp [Kd.trunc], by simp [Kd.val]⟩
theorem kf32 (y : BitVec 32) : ∃ x : BitVec 64, Kd.u32.trunc x = x ∧ Value.int .u32 (uv y) = Kd.u32.val x := ⟨y.setWidth 64, by simp [Kd.trunc], by simp [Kd.val]⟩
theorem kf64 (y : BitVec 64) : ∃ x : BitVec 64, Kd.u64.trunc x = x ∧ Value.int .u64 (uv y) = Kd.u64.val x := ⟨y, rfl, rfl⟩
theorem kf_guid : ∀ xs : List (BitVec 8), KF (List.replicate xs.length .u8) (xs.flatMap fun y => [.int .u8 (uv y)])
  | [] => trivial
  | x :: xs => ⟨kf8 x, kf_guid xs⟩
theorem kf_blk : ∀ xs : List Blk, KF ((List.replicate xs.length ()).flatMap fun _ => [.u16, .u8, .u8]) (xs.flatMap Blk.cells)
  | [] => trivial
  | x :: xs => ⟨kf16 x.ms, kf8 x.sz, kf8 x.pf, kf_blk xs⟩
theorem spec_kinds : nsSpec.map (·.2.1) = [Kd.u64, Kd.u64, Kd.u64, Kd.u8, Kd.u8, Kd.u8, Kd.u8, Kd.u8, Kd.u8, Kd.u8, Kd.u8, Kd.u16, Kd.u16, Kd.u16, Kd.u32, Kd.u64] ++ (List.replicate 16 .u8 ++ (((List.replicate 16 ()).flatMap fun _ => [Kd.u16, .u8, .u8]) ++ [])) := by decide +kernel
theorem ns_flat (w : World) (x : NsR) (h : NsR.R w x) : ∃ vs, NsOk vs ∧ nsC vs = NsR.cells x := by
  obtain ⟨-, -, -, -, -, -, -, -, -, -, -, -, -, -, -, -, ⟨hg, -⟩, ⟨hb, -⟩⟩ := h
  have hk : KF (nsSpec.map (·.2.1)) (NsR.cells x) := by
    rw [spec_kinds]
    have h1 := kf_guid x.guid
    have h2 := kf_blk x.blocks
    rw [hg] at h1; rw [hb] at h2
    exact ⟨kf64 x.f0, kf64 x.f1, kf64 x.f2, kf8 x.f3, kf8 x.f4, kf8 x.f5, kf8 x.f6, kf8 x.f7, kf8 x.f8, kf8 x.f9, kf8 x.f10, kf16 x.f11, kf16 x.f12, kf16 x.f13, kf32 x.f14, kf64 x.f15, (show KF (List.replicate 16 .u8 ++ (((List.replicate 16 ()).flatMap fun _ => [Kd.u16, .u8, .u8]) ++ [])) ((x.guid.flatMap fun y => [.int .u8 (uv y)]) ++ (x.blocks.flatMap Blk.cells ++ [])) from KF.app h1 (KF.app h2 trivial))⟩
  obtain ⟨vs, e1, e2, e3⟩ := hk.nums
  rw [List.zip_map_left] at e2 e3
  refine ⟨vs, ⟨by rw [e1, List.length_map, nsSpec_len], fun p hp => e3 (p.1.2.1, p.2) (List.mem_map.2 ⟨p, hp, rfl⟩)⟩, ?_⟩
  rw [e2, List.map_map]; rfl
theorem opens_Nsl (w : World) : Opens Tryd.prog w 71 NsL NsL.cells NsOk := by
  intro H enc sp held fuel cs x h
  obtain ⟨r, h1, h2⟩ := opens_NsR w _ _ _ _ _ _ _ h
  obtain ⟨vs, h3, h4⟩ := ns_flat w r h2
  exact ⟨vs, h1.trans h4.symm, h3⟩
end Idn
namespace Idn
theorem rdNs_back {vs : List (BitVec 64)} (h : NsOk vs) : rdNs (nsB vs) = vs := by
  unfold rdNs
  apply List.ext_getElem?
  intro i
  by_cases hi : i < 80
  · obtain ⟨s, hs⟩ : ∃ s, nsSpec[i]? = some s := ⟨_, List.getElem?_eq_getElem (by rw [nsSpec_len]; exact hi)⟩
    obtain ⟨v, hv⟩ : ∃ v, vs[i]? = some v := ⟨_, List.getElem?_eq_getElem (by rw [h.1]; exact hi)⟩
    have hz : (nsSpec.zip vs)[i]? = some (s, v) := List.getElem?_zip_eq_some.2 ⟨hs, hv⟩
    have hm := List.mem_of_getElem? hz
    rw [List.getElem?_map, hs, hv]
    exact congrArg some (rd_back apart_ns (nsFs_in vs) hm (h.2 _ hm))
  · rw [List.getElem?_eq_none (by rw [List.length_map, nsSpec_len]; omega), List.getElem?_eq_none (by rw [h.1]; omega)]
/-- What stands behind the first k parts. -/
def restI (x : Ids) (k : Nat) : List (BitVec 8) := ((idsL x).drop k).flatten ++ List.replicate (4096 - (idsO x 4).length) 0#8
theorem idsB_cut (x : Ids) (k : Nat) : idsB x = idsO x k ++ restI x k := by
  have h4 : idsO x 4 = (idsL x).flatten := by unfold idsO; rw [List.take_of_length_le (by simp [idsL])]
  unfold restI
  rw [← List.append_assoc]
  unfold idsB
  rw [show idsO x k ++ ((idsL x).drop k).flatten = (idsL x).flatten from by unfold idsO; rw [← List.flatten_append, List.take_append_drop], h4]
theorem restI_succ (x : Ids) (k : Nat) (p : List (BitVec 8)) (h : (idsL x)[k]? = some p) : restI x k = p ++ restI x (k + 1) := by
  obtain ⟨hk, rfl⟩ := List.getElem?_eq_some_iff.1 h
  unfold restI
  rw [List.drop_eq_getElem_cons hk, List.flatten_cons, List.append_assoc]
theorem rest4 (x : Ids) (h : Ids.Ok x) : (restI x 4)[0]? = some 0#8 := by
  have := idsO_len x h 4
  unfold restI
  rw [List.drop_of_length_le (by simp [idsL]), List.flatten_nil, List.nil_append, List.getElem?_replicate, if_pos (by omega)]
theorem rest3 (x : Ids) (h : Ids.Ok x) : (restI x 3)[0]? = if nonzero x.set then some 4#8 else some 0#8 := by
  rw [restI_succ x 3 _ rfl]
  split
  · rfl
  · exact rest4 x h
theorem idPart_hd (k : Nat) (l r : List (BitVec 8)) : (idPart k l ++ r)[0]? = if l.any nonzero then some (BitVec.ofNat 8 (k + 1)) else r[0]? := by
  unfold idPart
  split
  · rfl
  · rfl
theorem rest2 (x : Ids) (h : Ids.Ok x) : (restI x 2)[0]? = if x.u.any nonzero then some 3#8 else (restI x 3)[0]? := by rw [restI_succ x 2 _ rfl, idPart_hd]
theorem rest1 (x : Ids) (h : Ids.Ok x) : (restI x 1)[0]? = if x.g.any nonzero then some 2#8 else (restI x 2)[0]? := by rw [restI_succ x 1 _ rfl, idPart_hd]
theorem rest0 (x : Ids) (h : Ids.Ok x) : (restI x 0)[0]? = if x.e.any nonzero then some 1#8 else (restI x 1)[0]? := by rw [restI_succ x 0 _ rfl, idPart_hd]
theorem hit_at (x : Ids) (k : Nat) (h : atI (idsB x) k = (idsO x k).length) : hitI (idsB x) k = ((restI x k)[0]? == some (BitVec.ofNat 8 (k + 1))) := by
  unfold hitI
  rw [h, idsB_cut x k, List.getElem?_append_right (Nat.le_refl _), Nat.sub_self]
theorem cut_at (x : Ids) (k : Nat) (l : List (BitVec 8)) (n : Nat) (hn : l.length = n) (h : atI (idsB x) k = (idsO x k).length) (hr : restI x k = idPart k l ++ restI x (k + 1)) (ha : l.any nonzero = true) : cutL (idsB x) (atI (idsB x) k + 4) n = l := by
  unfold cutL
  rw [h, ← List.drop_drop, idsB_cut x k, List.drop_left, hr]
  unfold idPart
  rw [if_pos ha, List.append_assoc]
  show (l ++ restI x (k + 1)).take n = l
  rw [← hn, List.take_left]
theorem zero_of (l : List (BitVec 8)) (n : Nat) (hn : l.length = n) (h : l.any nonzero = false) : List.replicate n 0#8 = l := by
  rw [List.any_eq_false] at h
  symm
  refine List.eq_replicate_of_mem (a := 0#8) (fun y hy => ?_) |>.trans (by rw [hn])
  have := h y hy
  unfold nonzero at this
  apply BitVec.eq_of_toNat_eq
  simp [uv] at this
  simpa using this
theorem rdI_back (x : Ids) (h : Ids.Ok x) : rdI (idsB x) = x := by
  obtain ⟨h1, h2, h3⟩ := id h
  have r3 := rest3 x h; have r2 := rest2 x h; have r1 := rest1 x h; have r0 := rest0 x h
  have a0 : atI (idsB x) 0 = (idsO x 0).length := rfl
  have t0 := hit_at x 0 a0
  have c0 : hitI (idsB x) 0 = x.e.any nonzero := by
    rw [t0, r0, r1, r2, r3]
    cases x.e.any nonzero
    · simp only [Bool.false_eq_true, if_false]; repeat' split <;> try decide
    · rfl
  have a1 : atI (idsB x) 1 = (idsO x 1).length := by
    rw [atI_succ, c0, a0, idsO_next x 0 _ rfl, List.length_append]
    unfold idPart
    cases x.e.any nonzero <;> simp [lenI, h1]
  have t1 := hit_at x 1 a1
  have c1 : hitI (idsB x) 1 = x.g.any nonzero := by
    rw [t1, r1, r2, r3]
    cases x.g.any nonzero
    · simp only [Bool.false_eq_true, if_false]; repeat' split <;> try decide
    · rfl
  have a2 : atI (idsB x) 2 = (idsO x 2).length := by
    rw [atI_succ, c1, a1, idsO_next x 1 _ rfl, List.length_append]
    unfold idPart
    cases x.g.any nonzero <;> simp [lenI, h2]
  have t2 := hit_at x 2 a2
  have c2 : hitI (idsB x) 2 = x.u.any nonzero := by
    rw [t2, r2, r3]
    cases x.u.any nonzero
    · simp only [Bool.false_eq_true, if_false]; repeat' split <;> try decide
    · rfl
  have a3 : atI (idsB x) 3 = (idsO x 3).length := by
    rw [atI_succ, c2, a2, idsO_next x 2 _ rfl, List.length_append]
    unfold idPart
    cases x.u.any nonzero <;> simp [lenI, h3]
  have t3 := hit_at x 3 a3
  have c3 : hitI (idsB x) 3 = nonzero x.set := by
    rw [t3, r3]
    cases nonzero x.set <;> decide
  have p0 : prI (idsB x) 0 = x.e := by
    unfold prI
    rw [c0]
    cases hb : x.e.any nonzero with
    | false => exact zero_of x.e 8 h1 hb
    | true => exact cut_at x 0 x.e 8 h1 a0 (restI_succ x 0 _ rfl) hb
  have p1 : prI (idsB x) 1 = x.g := by
    unfold prI
    rw [c1]
    cases hb : x.g.any nonzero with
    | false => exact zero_of x.g 16 h2 hb
    | true => exact cut_at x 1 x.g 16 h2 a1 (restI_succ x 1 _ rfl) hb
  have p2 : prI (idsB x) 2 = x.u := by
    unfold prI
    rw [c2]
    cases hb : x.u.any nonzero with
    | false => exact zero_of x.u 16 h3 hb
    | true => exact cut_at x 2 x.u 16 h3 a2 (restI_succ x 2 _ rfl) hb
  have p3 : setI (idsB x) = x.set := by
    unfold setI
    rw [c3]
    cases hb : nonzero x.set with
    | false =>
      have : uv x.set = 0 := by unfold nonzero at hb; simpa using hb
      apply BitVec.eq_of_toNat_eq
      simp [uv] at this
      simp [this]
    | true =>
      rw [if_pos rfl, a3]
      have hr := restI_succ x 3 _ rfl
      rw [show (if nonzero x.set then [4#8, 1#8, 0#8, 0#8, x.set - 1#8] else []) = [4#8, 1#8, 0#8, 0#8, x.set - 1#8] from if_pos hb] at hr
      rw [idsB_cut x 3, List.getD_eq_getElem?_getD, List.getElem?_append_right (by omega), Nat.add_sub_cancel_left, hr]
      show x.set - 1#8 + 1#8 = x.set
      exact BitVec.sub_add_cancel _ _
  unfold rdI
  rw [p0, p1, p2, p3]
theorem okI_of (x : Ids) (h : Ids.Ok x) : okI x = true := decide_eq_true h
end Idn
set_option linter.unusedVariables false
set_option linter.unusedSimpArgs false
theorem bytes_cell (l : List (BitVec 8)) (xs : Array Value) (a b : List Value) (hx : xs.toList = a ++ (by8 l ++ b)) (i : Nat) (hi : i < l.length) : ∃ n, xs[a.length + i]? = some (.int .u8 n) := by
  refine ⟨uv l[i], ?_⟩
  rw [← Array.getElem?_toList, hx, List.getElem?_append_right (by omega), Nat.add_sub_cancel_left, List.getElem?_append_left (by simpa using hi), by8_get, List.getElem?_eq_getElem hi]; rfl
theorem selfAt_bytes {d : Nat} {t : TypeId} {n : Nat} {xs : Array Value} (hu : Tryd.prog.underlying t = some (.array n 5)) (ht : (Tryd.prog.info? t).isSome = true) (hm : Tryd.prog.cellsOf t = n)
    (l : List (BitVec 8)) (a b : List Value) (off : Nat) (ha : a.length = off) (hx : xs.toList = a ++ (by8 l ++ b)) (hl : l.length = n) : SelfAt Tryd.prog (d + 2) t xs off := by
  refine selfAt_arr hu ht hm (by kernel_rfl) (show Tryd.prog.cellsOf 5 = 1 by kernel_rfl) fun i hi => ?_
  obtain ⟨v, hv⟩ := bytes_cell l xs a b hx i (by omega)
  refine selfAt_int (k := .u8) (a := v) Tryd.underlying5 ?_
  rw [Nat.mul_one, Array.getElem?_extract, ← ha, hv]
  have hs : i < min (a.length + n) xs.size - a.length := by
    have : xs.size = a.length + (l.length + b.length) := by rw [← Array.length_toList, hx]; simp
    omega
  rw [if_pos hs]
set_option maxRecDepth 100000 in
theorem ids_eql (x : Ids) (hx : Ids.Ok x) (w : World) : (binOp .eql 76 (.agg (Ids.cells x).toArray) (.agg (Ids.cells x).toArray)).run Tryd.prog w = .ok (.bool true) w := by
  obtain ⟨h1, h2, h3⟩ := hx
  refine eql_self (fun w => self_struct (by kernel_rfl) (by kernel_rfl) ?_ w) w
  have hc := Ids.cells_eq x
  rw [show Tryd.prog.fieldsOf 76 = _ from by unfold Program.fieldsOf; rw [Tryd.underlying76]]
  simp only [List.forall_mem_cons, List.not_mem_nil, false_implies, implies_true, and_true]
  refine ⟨?_, ?_, ?_, ?_⟩
  · exact selfAt_bytes (d := 9997) (t := 74) Tryd.underlying74 (by kernel_rfl) (by kernel_rfl) x.e [] _ 0 rfl (by rw [List.nil_append]; exact hc) h1
  · exact selfAt_bytes (d := 9997) (t := 66) Tryd.underlying66 (by kernel_rfl) (by kernel_rfl) x.g (by8 x.e) _ 8 (by simp [h1]) hc h2
  · exact selfAt_bytes (d := 9997) (t := 66) Tryd.underlying66 (by kernel_rfl) (by kernel_rfl) x.u (by8 x.e ++ by8 x.g) _ 24 (by simp [h1, h2]) (by rw [List.append_assoc]; exact hc) h3
  · refine selfAt_int (d := 9998) (k := .u8) (a := uv x.set) Tryd.underlying5 ?_
    rw [List.getElem?_toArray, hc, ← List.append_assoc, ← List.append_assoc, List.getElem?_append_right (by simp [h1, h2, h3])]
    simp [h1, h2, h3]
theorem idsB_len (x : Ids) (hx : Ids.Ok x) : (idsB x).length = 4096 := by
  have := idsO_len x hx 4
  unfold idsB; rw [List.length_append, List.length_replicate]; omega
namespace Idn
theorem guid_at : ∀ k, k < 16 → nsSpec[16 + k]? = some (104 + k, .u8, 16 + k) := by decide +kernel
end Idn
set_option linter.unusedVariables false
set_option linter.unusedSimpArgs false
theorem ext_get {xs : Array Value} {a n j : Nat} (hj : j < n) (hs : a + n ≤ xs.size) : (xs.extract a (a + n))[j]? = xs[a + j]? := by
  rw [Array.getElem?_extract, if_pos (by omega)]
set_option maxRecDepth 100000 in
set_option maxHeartbeats 1600000 in
theorem ns_eql (vs : NsL) (hv : NsOk vs) (w : World) : (binOp .eql 71 (.agg (NsL.cells vs).toArray) (.agg (NsL.cells vs).toArray)).run Tryd.prog w = .ok (.bool true) w := by
  have hc : ∀ (j : Nat) (s : Nat × Kd × Nat), nsSpec[j]? = some s → (NsL.cells vs).toArray[j]? = some (s.2.1.val (gv vs j)) := fun j s h => by rw [List.getElem?_toArray]; exact cell_ns hv.1 h
  have hz : (NsL.cells vs).toArray.size = 80 := ns_sz hv
  obtain ⟨C, hC⟩ : ∃ C, (NsL.cells vs).toArray = C := ⟨_, rfl⟩
  rw [hC] at hc hz ⊢
  clear hC
  refine eql_self (fun w => self_struct (by kernel_rfl) (by kernel_rfl) ?_ w) w
  rw [show Tryd.prog.fieldsOf 71 = _ from by unfold Program.fieldsOf; rw [Tryd.underlying71]]
  simp only [List.forall_mem_cons, List.not_mem_nil, false_implies, implies_true, and_true]
  refine ⟨?_, ?_, ?_, ?_, ?_, ?_, ?_, ?_, ?_, ?_, ?_, ?_, ?_, ?_, ?_, ?_, ?_, ?_⟩
  · exact selfAt_int (d := 9998) (k := .u64) Tryd.underlying23 (hc 0 (0, .u64, 0) rfl)
  · exact selfAt_int (d := 9998) (k := .u64) Tryd.underlying23 (hc 1 (8, .u64, 1) rfl)
  · exact selfAt_int (d := 9998) (k := .u64) Tryd.underlying23 (hc 2 (16, .u64, 2) rfl)
  · exact selfAt_int (d := 9998) (k := .u8) Tryd.underlying5 (hc 3 (24, .u8, 3) rfl)
  · exact selfAt_int (d := 9998) (k := .u8) Tryd.underlying5 (hc 4 (25, .u8, 4) rfl)
  · exact selfAt_int (d := 9998) (k := .u8) Tryd.underlying5 (hc 5 (26, .u8, 5) rfl)
  · exact selfAt_int (d := 9998) (k := .u8) Tryd.underlying5 (hc 6 (27, .u8, 6) rfl)
  · exact selfAt_int (d := 9998) (k := .u8) Tryd.underlying5 (hc 7 (28, .u8, 7) rfl)
  · exact selfAt_int (d := 9998) (k := .u8) Tryd.underlying5 (hc 8 (29, .u8, 8) rfl)
  · exact selfAt_int (d := 9998) (k := .u8) Tryd.underlying5 (hc 9 (30, .u8, 9) rfl)
  · exact selfAt_int (d := 9998) (k := .u8) Tryd.underlying5 (hc 10 (31, .u8, 10) rfl)
  · exact selfAt_int (d := 9998) (k := .u16) Tryd.underlying36 (hc 11 (34, .u16, 11) rfl)
  · exact selfAt_int (d := 9998) (k := .u16) Tryd.underlying36 (hc 12 (36, .u16, 12) rfl)
  · exact selfAt_int (d := 9998) (k := .u16) Tryd.underlying36 (hc 13 (38, .u16, 13) rfl)
  · exact selfAt_int (d := 9998) (k := .u32) Tryd.underlying24 (hc 14 (92, .u32, 14) rfl)
  · exact selfAt_int (d := 9998) (k := .u64) Tryd.underlying23 (hc 15 (120, .u64, 15) rfl)
  · refine selfAt_arr (d := 9998) (e := 5) (n := 16) Tryd.underlying66 (by kernel_rfl) (show Tryd.prog.cellsOf 66 = 16 by kernel_rfl) (by kernel_rfl) (show Tryd.prog.cellsOf 5 = 1 by kernel_rfl) fun i hi => ?_
    refine selfAt_int (d := 9997) (k := .u8) (a := uv ((gv vs (16 + i)).setWidth 8)) Tryd.underlying5 ?_
    rw [Nat.mul_one]
    exact (ext_get hi (by rw [hz]; decide)).trans (hc _ _ (guid_at i hi))
  · refine selfAt_arr (d := 9998) (e := 68) (n := 16) Tryd.underlying69 (by kernel_rfl) (show Tryd.prog.cellsOf 69 = 48 by kernel_rfl) (by kernel_rfl) (show Tryd.prog.cellsOf 68 = 3 by kernel_rfl) fun i hi => ?_
    obtain ⟨h1, h2, h3⟩ := spec_blk i hi
    have hsz : (C.extract 32 (32 + 48)).size = 48 := by rw [Array.size_extract]; omega
    have hx : ∀ j, j < 3 → ((C.extract 32 (32 + 48)).extract (i * 3) (i * 3 + 3))[j]? = C[32 + 3 * i + j]? := fun j hj => by
      rw [ext_get hj (by omega), ext_get (by omega) (by omega), show 32 + (i * 3 + j) = 32 + 3 * i + j by omega]
    refine selfAt_struct (d := 9997) (m := 3) (by kernel_rfl) (by kernel_rfl) (by kernel_rfl) (by kernel_rfl) ?_
    rw [show Tryd.prog.fieldsOf 68 = _ from by unfold Program.fieldsOf; rw [Tryd.underlying68]]
    simp only [List.forall_mem_cons, List.not_mem_nil, false_implies, implies_true, and_true]
    refine ⟨?_, ?_, ?_⟩
    · exact selfAt_int (d := 9996) (k := .u16) Tryd.underlying36 ((hx 0 (by decide)).trans (hc _ _ h1))
    · exact selfAt_int (d := 9996) (k := .u8) Tryd.underlying5 ((hx 1 (by decide)).trans (hc _ _ h2))
    · exact selfAt_int (d := 9996) (k := .u8) Tryd.underlying5 ((hx 2 (by decide)).trans (hc _ _ h3))
set_option linter.unusedVariables false
set_option linter.unusedSimpArgs false
set_option maxHeartbeats 1600000 in
theorem zn_equalIn (a b : Bool) (c d e f : Int) (w : World) : (Op.equalIn 10000 73 (.agg #[.bool a, .bool b, .int .u32 c, .int .u32 d, .int .u64 e, .int .u8 f]) (.agg #[.bool a, .bool b, .int .u32 c, .int .u32 d, .int .u64 e, .int .u8 f])).run Tryd.prog w = .ok true w := by
  have hS : Tryd.prog.underlying 73 = some (.struct (Tryd.prog.fieldsOf 73)) := by kernel_rfl
  have hp : Tryd.prog.stoodInHeld 73 = false := by kernel_rfl
  have u1 := Tryd.underlying4
  have u2 := Tryd.underlying23
  have u3 := Tryd.underlying24
  have u4 := Tryd.underlying5
  rw [show (10000 : Nat) = 9999 + 1 from rfl, run_equalIn_agg w 9999 73 _ _ hS hp]
  simp only [Program.fieldsOf, Tryd.underlying73]
  go_simp
  try simp
theorem zn_eql (x : Zn) (w : World) : (binOp .eql 73 (.agg (Zn.cells x).toArray) (.agg (Zn.cells x).toArray)).run Tryd.prog w = .ok (.bool true) w := by
  have h := zn_equalIn x.vary x.across (uv x.active) (uv x.openz) (uv x.size) (uv x.ext) w
  rw [run_eql_struct]
  show ((Op.equalIn 10000 73 (.agg #[.bool x.vary, .bool x.across, .int .u32 (uv x.active), .int .u32 (uv x.openz), .int .u64 (uv x.size), .int .u8 (uv x.ext)]) (.agg #[.bool x.vary, .bool x.across, .int .u32 (uv x.active), .int .u32 (uv x.openz), .int .u64 (uv x.size), .int .u8 (uv x.ext)])).run Tryd.prog w).andThen _ = _
  rw [h]; rfl
end Go.Proofs.YthnnopjakpjoeaaDoor
namespace Go.Proofs.YthnnopjakpjoeaaDoor
open Go.RowKit Idn Rise
set_option linter.unusedVariables false
set_option linter.unusedSimpArgs false
namespace Idn
def exC : Ctl := ⟨258#16, 0#16, 0#8, 0#16, 0#32, 0#16, 0#8, 0#8, 0#8, 0#8, 0#8, 0#8, 0#16, 0#8, 0#8, 0#16, 0#32, 0#16, 0#8, 0#16, 0#16, 0#32, [83#8, 49#8], [], [], [110#8]⟩
def exCB : List (BitVec 8) := ctlB exC
def exI : Ids := ⟨[1#8, 2#8, 3#8, 4#8, 5#8, 6#8, 7#8, 8#8], List.replicate 16 0#8, List.replicate 16 0#8, 3#8⟩
def exIB : List (BitVec 8) := idsB exI
def exAB : List (BitVec 8) := actB [1#32, 5#32, 9#32] 1#32
theorem exC_ok : ctlOk exC = true := by decide +kernel
theorem exC_cells : exCB[0]? = some 2#8 ∧ exCB[1]? = some 1#8 ∧ exCB[768]? = some 110#8 ∧ exCB[769]? = some 0#8 ∧ (exCB.take 7).drop 4 = [83#8, 49#8, 32#8] := by decide +kernel
theorem ctlB_len (x : Ctl) (h : ctlOk x = true) : (ctlB x).length = 4096 := by
  unfold ctlOk at h
  simp only [Bool.and_eq_true] at h
  obtain ⟨⟨⟨h1, h2⟩, h3⟩, h4⟩ := h
  have l1 := nameOk_len h1; have l2 := nameOk_len h2; have l3 := nameOk_len h3; have l4 := nameOk_len h4
  unfold ctlB
  rw [Lay.lays_len, zeros_len]
  intro q hq
  rcases List.mem_append.1 hq with hq | hq
  · exact (ctlFs_in x q hq).2
  · rw [zeros_len]
    unfold ctlTs at hq
    simp only [List.mem_cons, List.not_mem_nil, or_false] at hq
    rcases hq with rfl | rfl | rfl | rfl
    · show 4 + (fill x.serial 20 32#8).length ≤ 4096; rw [fill_len l1]; omega
    · show 24 + (fill x.model 40 32#8).length ≤ 4096; rw [fill_len l2]; omega
    · show 64 + (fill x.revision 8 32#8).length ≤ 4096; rw [fill_len l3]; omega
    · show 768 + x.name.length ≤ 4096; omega
theorem exCB_len : exCB.length = 4096 := ctlB_len exC exC_ok
theorem exI_ok : Ids.Ok exI := ⟨rfl, by simp [exI], by simp [exI]⟩
theorem exI_cells : exIB.take 17 = [1#8, 8#8, 0#8, 0#8, 1#8, 2#8, 3#8, 4#8, 5#8, 6#8, 7#8, 8#8, 4#8, 1#8, 0#8, 0#8, 2#8] := by decide +kernel
theorem exA_cells : exAB.take 12 = [5#8, 0#8, 0#8, 0#8, 9#8, 0#8, 0#8, 0#8, 0#8, 0#8, 0#8, 0#8] := by decide +kernel
theorem exA_ok : OkL [1#32, 5#32, 9#32] := by
  refine ⟨fun t a b h1 h2 => ?_, fun x h => ?_⟩
  · match t, h1, h2 with
    | 0, h1, h2 => simp at h1 h2; subst h1; subst h2; decide
    | 1, h1, h2 => simp at h1 h2; subst h1; subst h2; decide
    | t + 2, h1, h2 => simp at h2
  · simp at h; subst h; decide
end Idn
theorem kn_ctl (w : World) : Calls Tryd.prog 32 #[.agg #[.int .u16 258, .int .u16 0, .int .u8 0, .int .u16 0, .int .u32 0, .int .u16 0, .int .u8 0, .int .u8 0, .int .u8 0, .int .u8 0, .int .u8 0, .int .u8 0, .int .u16 0, .int .u8 0, .int .u8 0, .int .u16 0, .int .u32 0, .int .u16 0, .int .u8 0, .int .u16 0, .int .u16 0, .int .u32 0, .string ⟨#[83, 49]⟩, .string ⟨#[]⟩, .string ⟨#[]⟩, .string ⟨#[110]⟩]] w fun e w' => ∃ u, e = .returned (.tuple #[u, .int .i64 0]) ∧ BytesV w' u exCB ∧ Below w.heap.size w w' := by
  have h := EncC_at exC w ⟨by decide, by decide, by decide, by decide⟩
  have e1 : ctlE exC = 0 := by unfold ctlE; rw [exC_ok]; rfl
  have e2 : ctlR exC = exCB := by unfold ctlR; rw [if_pos exC_ok]; rfl
  rw [e1, e2] at h
  exact h
set_option maxRecDepth 20000 in
theorem kn_ns (cs : Array Value) (h4 : cs[4]? = some (.int .u8 1)) (h5 : cs[5]? = some (.int .u8 2)) (w : World) : Calls Tryd.prog 33 #[.agg cs] w fun e w' => e = .returned (.tuple #[.slice none 0 0, .int .i64 2]) ∧ Below w.heap.size w w' := by
  obtain ⟨W, hW⟩ : ∃ W, W = w.alloc (.cells cs 71) := ⟨_, rfl⟩
  have c4 : W.cell? ⟨w.heap.size, 4, none⟩ = some (.int .u8 1) := by rw [hW]; exact (cell_of_row _ _ 4 _ _ _ (heap_alloc_new w _)).trans h4
  have c5 : W.cell? ⟨w.heap.size, 5, none⟩ = some (.int .u8 2) := by rw [hW]; exact (cell_of_row _ _ 5 _ _ _ (heap_alloc_new w _)).trans h5
  have D := Lib.hid (show Below w.heap.size w W by rw [hW]; exact gr_alloc w _)
  have HW := Lib.hid hW; clear hW h4 h5
  go_enter Tryd.func33, Tryd.ntmps33
  go_upto_region 1 with (fail)
  rw [← HW.out]
  go_wp2
  go_ret2
  exact ⟨rfl, D.out⟩
set_option maxRecDepth 20000 in
theorem kn_ids (w : World) : Calls Tryd.prog 38 #[.agg #[.int .u8 1, .int .u8 2, .int .u8 3, .int .u8 4, .int .u8 5, .int .u8 6, .int .u8 7, .int .u8 8, .int .u8 0, .int .u8 0, .int .u8 0, .int .u8 0, .int .u8 0, .int .u8 0, .int .u8 0, .int .u8 0, .int .u8 0, .int .u8 0, .int .u8 0, .int .u8 0, .int .u8 0, .int .u8 0, .int .u8 0, .int .u8 0, .int .u8 0, .int .u8 0, .int .u8 0, .int .u8 0, .int .u8 0, .int .u8 0, .int .u8 0, .int .u8 0, .int .u8 0, .int .u8 0, .int .u8 0, .int .u8 0, .int .u8 0, .int .u8 0, .int .u8 0, .int .u8 0, .int .u8 3]] w fun e w' => ∃ u, e = .returned u ∧ BytesV w' u exIB ∧ Below w.heap.size w w' :=
  EncI_at exI w exI_ok
theorem kn_act (v : Value) (w : World) (hv : SliceV w (fun y : BitVec 32 => [Value.int .u32 (uv y)]) v [1#32, 5#32, 9#32]) : Calls Tryd.prog 67 #[v, .int .u32 1] w fun e w' => ∃ g, e = .returned (.tuple #[.slice (some ⟨g, 0, none⟩) 4096 4096, .int .i64 0]) ∧ BytesV w' (.slice (some ⟨g, 0, none⟩) 4096 4096) exAB ∧ Below w.heap.size w w' :=
  (Act_ok v [1#32, 5#32, 9#32] 1#32 w hv (by simp) exA_ok).mono fun e w' ⟨g, h1, h2, h3⟩ => ⟨g, h1, h2.bytes, h3⟩
set_option maxHeartbeats 3200000 in
set_option maxRecDepth 100000 in
theorem known_any (w : World) : Calls Tryd.prog 20 #[] w fun e w' => e = .returned (.bool true) ∧ Below w.heap.size w w' := by
  go_enter Tryd.func20, Tryd.ntmps20
  go_upto_region 5 with (first
    | (go_at_call 32; go_loud (refine (kn_ctl _).mono ?_; rintro r w1 ⟨u1, rfl, hu, hw⟩; have A := Lib.hid hu; have B := Lib.hid hw; clear hu hw))
    | (go_at_call 33; go_loud (refine (kn_ns _ rfl rfl _).mono ?_; rintro r w2 ⟨rfl, hw⟩; replace A := Lib.hid (A.out.below hw); replace B := Lib.hid (gr_tr B.out hw); clear hw))
    | (go_at_call 38; go_loud (refine (kn_ids _).mono ?_; rintro r w3 ⟨u3, rfl, hu, hw⟩; replace A := Lib.hid (A.out.below hw); have I := Lib.hid hu; replace B := Lib.hid (gr_tr B.out hw); clear hu hw))
    | (go_at_call 67; go_loud (refine (kn_act _ _ (SliceV.of_cells w3 [1#32, 5#32, 9#32] #[.int .u32 1, .int .u32 5, .int .u32 9] 24 3 rfl (by omega) rfl)).mono ?_; rintro r w4 ⟨g4, rfl, hu, hw⟩; replace hw := gr_tr (gr_alloc w3 (.cells #[.int .u32 1, .int .u32 5, .int .u32 9] 24)) hw; replace A := Lib.hid (A.out.below hw); replace I := Lib.hid (I.out.below hw); have L := Lib.hid hu; replace B := Lib.hid (gr_tr B.out hw); clear hu hw)))
  obtain ⟨ga, oa, ca, rfl⟩ := A.out.shapeAt (by have := exCB_len; omega)
  obtain ⟨x0, x1, x768, x769, xs⟩ := exC_cells
  have a0 := A.out.cellAt x0; have a1 := A.out.cellAt x1; have a2 := A.out.cellAt x768; have a3 := A.out.cellAt x769
  obtain ⟨ua, hua, hra, -⟩ := A.out.cut (P := Tryd.prog) (T := 22) Tryd.underlying22 bszU 4 7 (by omega) (by have := exCB_len; omega)
  rw [xs] at hua
  have sa := run_string hua
  rw [show strOf [83#8, 49#8, 32#8] = ⟨#[83, 49, 32]⟩ from rfl] at sa
  obtain ⟨gi, oi, ci, rfl⟩ := I.out.shapeAt (by have := idsB_len exI exI_ok; unfold exIB; omega)
  obtain ⟨ui, hui, -, hri⟩ := I.out.cut (P := Tryd.prog) (T := 22) Tryd.underlying22 bszU 0 17 (by omega) (by have := idsB_len exI exI_ok; unfold exIB; omega)
  rw [List.drop_zero, exI_cells] at hui
  have si := run_string hui
  rw [show strOf [1#8, 8#8, 0#8, 0#8, 1#8, 2#8, 3#8, 4#8, 5#8, 6#8, 7#8, 8#8, 4#8, 1#8, 0#8, 0#8, 2#8] = ⟨#[1, 8, 0, 0, 1, 2, 3, 4, 5, 6, 7, 8, 4, 1, 0, 0, 2]⟩ from rfl] at si
  have hl : exAB.length = 4096 := by obtain ⟨a, c, h, _⟩ := L.out; injection h
  have L2 := L.out
  obtain ⟨ul, hul, -, hrl⟩ := L2.cut (P := Tryd.prog) (T := 22) Tryd.underlying22 bszU 0 12 (by omega) (by omega)
  rw [List.drop_zero, exA_cells] at hul
  have sl := run_string hul
  rw [show strOf [5#8, 0#8, 0#8, 0#8, 9#8, 0#8, 0#8, 0#8, 0#8, 0#8, 0#8, 0#8] = ⟨#[5, 0, 0, 0, 9, 0, 0, 0, 0, 0, 0, 0]⟩ from rfl] at sl
  have hri2 := hri rfl
  have hrl2 := hrl rfl
  clear hri hrl
  rw [exCB_len] at hra ⊢
  rw [show exIB.length = 4096 from idsB_len exI exI_ok] at hri2 ⊢
  clear x0 x1 x768 x769 xs hua hui hul hl L2
  replace hra : ∀ w' : World, (Instr.slice 22 (.slice (some ⟨ga, oa, none⟩) 4096 ca) (some (.int .i64 4)) (some (.int .i64 7)) none).run Tryd.prog w' = .ok ua w' := hra
  replace hri2 : ∀ w' : World, (Instr.slice 22 (.slice (some ⟨gi, oi, none⟩) 4096 ci) none (some (.int .i64 17)) none).run Tryd.prog w' = .ok ui w' := hri2
  replace hrl2 : ∀ w' : World, (Instr.slice 22 (.slice (some ⟨g4, 0, none⟩) 4096 4096) none (some (.int .i64 12)) none).run Tryd.prog w' = .ok ul w' := hrl2
  replace a0 : w4.cell? ⟨ga, oa, none⟩ = some (.int .u8 2) := a0
  replace a1 : w4.cell? ⟨ga, oa + 1, none⟩ = some (.int .u8 1) := a1
  replace a2 : w4.cell? ⟨ga, oa + 768, none⟩ = some (.int .u8 110) := a2
  replace a3 : w4.cell? ⟨ga, oa + 769, none⟩ = some (.int .u8 0) := a3
  go_wp2
  go_ret
  exact ⟨rfl, B.out⟩
end Go.Proofs.YthnnopjakpjoeaaDoor
namespace Go.Proofs.YthnnopjakpjoeaaDoor
open Go.RowKit Idn
set_option linter.unusedVariables false
set_option linter.unusedSimpArgs false
namespace Idn
def shortC (x : Ctl) : Bool := decide (x.serial.length ≤ 300 ∧ x.model.length ≤ 300 ∧ x.revision.length ≤ 300 ∧ x.name.length ≤ 300)
end Idn
set_option maxHeartbeats 3200000 in
set_option maxRecDepth 100000 in
theorem short_at (x : Ctl) (b : Bool) (w : World) (hb : shortC x = b) :
    Calls Tryd.prog 19 #[.agg (Ctl.cells x).toArray] w fun e w' => e = .returned (.bool b) ∧ Below w.heap.size w w' := by
  obtain ⟨n1, h1⟩ : ∃ n, x.serial.length = n := ⟨_, rfl⟩
  obtain ⟨n2, h2⟩ : ∃ n, x.model.length = n := ⟨_, rfl⟩
  obtain ⟨n3, h3⟩ : ∃ n, x.revision.length = n := ⟨_, rfl⟩
  obtain ⟨n4, h4⟩ : ∃ n, x.name.length = n := ⟨_, rfl⟩
  unfold shortC at hb
  rw [h1, h2, h3, h4] at hb
  have s1 : (strOf x.serial).size = n1 := by rw [← h1]; simp [strOf, ByteArray.size]
  have s2 : (strOf x.model).size = n2 := by rw [← h2]; simp [strOf, ByteArray.size]
  have s3 : (strOf x.revision).size = n3 := by rw [← h3]; simp [strOf, ByteArray.size]
  have s4 : (strOf x.name).size = n4 := by rw [← h4]; simp [strOf, ByteArray.size]
  clear h1 h2 h3 h4
  obtain ⟨W, hW⟩ : ∃ W, W = w.alloc (.cells (Ctl.cells x).toArray 38) := ⟨_, rfl⟩
  have BXn : W.heap[w.heap.size]? = some (.cells (Ctl.cells x).toArray 38 (0, 0)) := by rw [hW]; exact heap_alloc_new w _
  have D := Lib.hid (show Below w.heap.size w W by rw [hW]; exact gr_alloc w _)
  obtain ⟨t1, e1⟩ : ∃ t, strOf x.serial = t := ⟨_, rfl⟩
  obtain ⟨t2, e2⟩ : ∃ t, strOf x.model = t := ⟨_, rfl⟩
  obtain ⟨t3, e3⟩ : ∃ t, strOf x.revision = t := ⟨_, rfl⟩
  obtain ⟨t4, e4⟩ : ∃ t, strOf x.name = t := ⟨_, rfl⟩
  have c22 : W.cell? ⟨w.heap.size, 22, none⟩ = some (.string t1) := (cell_of_row _ _ _ _ _ _ BXn).trans (by rw [← e1]; rfl)
  have c23 : W.cell? ⟨w.heap.size, 23, none⟩ = some (.string t2) := (cell_of_row _ _ _ _ _ _ BXn).trans (by rw [← e2]; rfl)
  have c24 : W.cell? ⟨w.heap.size, 24, none⟩ = some (.string t3) := (cell_of_row _ _ _ _ _ _ BXn).trans (by rw [← e3]; rfl)
  have c25 : W.cell? ⟨w.heap.size, 25, none⟩ = some (.string t4) := (cell_of_row _ _ _ _ _ _ BXn).trans (by rw [← e4]; rfl)
  rw [e1] at s1; rw [e2] at s2; rw [e3] at s3; rw [e4] at s4
  have HW := Lib.hid hW; have HB := Lib.hid hb; clear hW hb BXn e1 e2 e3 e4
  go_enter Tryd.func19, Tryd.ntmps19
  go_upto_region 1 with (fail)
  rw [← HW.out]
  by_cases p1 : (n1 : Int) ≤ 300
  · by_cases p2 : (n2 : Int) ≤ 300
    · by_cases p3 : (n3 : Int) ≤ 300
      · by_cases p4 : (n4 : Int) ≤ 300
        · go_wp2
          go_ret
          exact ⟨by rw [← HB.out, decide_eq_true (by omega)]; rfl, D.out⟩
        · go_wp2
          go_ret
          exact ⟨by rw [← HB.out, decide_eq_false (by omega)]; rfl, D.out⟩
      · go_wp2
        go_ret
        exact ⟨by rw [← HB.out, decide_eq_false (by omega)]; rfl, D.out⟩
    · go_wp2
      go_ret
      exact ⟨by rw [← HB.out, decide_eq_false (by omega)]; rfl, D.out⟩
  · go_wp2
    go_ret
    exact ⟨by rw [← HB.out, decide_eq_false (by omega)]; rfl, D.out⟩
theorem rEncC_at (x : Ctl) (w : World) (hlen : x.serial.length ≤ 300 ∧ x.model.length ≤ 300 ∧ x.revision.length ≤ 300 ∧ x.name.length ≤ 300) :
    Calls Tryd.prog 21 #[.agg (Ctl.cells x).toArray] w fun e w' => ∃ u, e = .returned (.tuple #[u, .int .i64 (ctlE x)]) ∧ BytesV w' u (ctlR x) ∧ Below w.heap.size w w' := by
  unfold ctlE ctlR
  cases hok : ctlOk x
  · refine (rEncC_no x w hok hlen).mono ?_
    rintro e w' ⟨rfl, h⟩
    exact ⟨_, rfl, BytesV.nil _, h⟩
  · refine (rEncC_ok x w hok hlen).mono ?_
    rintro e w' ⟨g, rfl, h1, h2⟩
    exact ⟨_, rfl, h1.bytes, h2⟩
end Go.Proofs.YthnnopjakpjoeaaDoor
namespace Go.Proofs.YthnnopjakpjoeaaDoor
open Go.RowKit Idn
set_option linter.unusedVariables false
set_option linter.unusedSimpArgs false
namespace Idn
/-- What is left when the bytes at the end that are p have been removed. -/
def stripP (p : BitVec 8 → Bool) (l : List (BitVec 8)) : List (BitVec 8) := (l.reverse.dropWhile p).reverse
theorem dropWhile_rep (p : BitVec 8 → Bool) (n : Nat) (c : BitVec 8) (r : List (BitVec 8)) (hc : p c = true) : (List.replicate n c ++ r).dropWhile p = r.dropWhile p := by
  induction n with
  | zero => rfl
  | succ n ih => rw [List.replicate_succ, List.cons_append, List.dropWhile_cons, if_pos hc, ih]
theorem stripP_fill (p : BitVec 8 → Bool) (s : List (BitVec 8)) (n : Nat) (c : BitVec 8) (hc : p c = true) (hs : ∀ y, s.getLast? = some y → p y = false) : stripP p (s ++ List.replicate n c) = s := by
  unfold stripP
  rw [List.reverse_append, List.reverse_replicate, dropWhile_rep p n c _ hc]
  rw [← List.head?_reverse] at hs
  cases h : s.reverse with
  | nil => rw [List.dropWhile_nil, ← h, List.reverse_reverse]
  | cons y r =>
    rw [h] at hs
    rw [List.dropWhile_cons, if_neg (by rw [hs y rfl]; decide), ← h, List.reverse_reverse]
theorem stripP_le (p : BitVec 8 → Bool) (l : List (BitVec 8)) : (stripP p l).length ≤ l.length := by
  unfold stripP
  rw [List.length_reverse]
  have := (List.dropWhile_suffix (l := l.reverse) p).length_le
  rwa [List.length_reverse] at this
/-- Blanks and zeros. -/
def blk (x : BitVec 8) : Bool := x == 32#8 || x == 0#8
def is32 (x : BitVec 8) : Bool := x == 32#8
def is0 (x : BitVec 8) : Bool := x == 0#8
/-- The fields of a structure, the texts without what t1 (t4) says of their ends. -/
def rdC (t1 t4 : BitVec 8 → Bool) (l : List (BitVec 8)) : Ctl := ⟨(Wire.getV (cutL l 0 2)).setWidth 16, (Wire.getV (cutL l 2 2)).setWidth 16, (Wire.getV (cutL l 77 1)).setWidth 8, (Wire.getV (cutL l 78 2)).setWidth 16, (Wire.getV (cutL l 80 4)).setWidth 32, (Wire.getV (cutL l 256 2)).setWidth 16, (Wire.getV (cutL l 258 1)).setWidth 8, (Wire.getV (cutL l 259 1)).setWidth 8, (Wire.getV (cutL l 260 1)).setWidth 8, (Wire.getV (cutL l 261 1)).setWidth 8, (Wire.getV (cutL l 262 1)).setWidth 8, (Wire.getV (cutL l 263 1)).setWidth 8, (Wire.getV (cutL l 320 2)).setWidth 16, (Wire.getV (cutL l 512 1)).setWidth 8, (Wire.getV (cutL l 513 1)).setWidth 8, (Wire.getV (cutL l 514 2)).setWidth 16, (Wire.getV (cutL l 516 4)).setWidth 32, (Wire.getV (cutL l 520 2)).setWidth 16, (Wire.getV (cutL l 525 1)).setWidth 8, (Wire.getV (cutL l 526 2)).setWidth 16, (Wire.getV (cutL l 528 2)).setWidth 16, (Wire.getV (cutL l 536 4)).setWidth 32, stripP t1 (cutL l 4 20), stripP t1 (cutL l 24 40), stripP t1 (cutL l 64 8), stripP t4 (cutL l 768 256)⟩
def ctlZ : Ctl := ⟨0#16, 0#16, 0#8, 0#16, 0#32, 0#16, 0#8, 0#8, 0#8, 0#8, 0#8, 0#8, 0#16, 0#8, 0#8, 0#16, 0#32, 0#16, 0#8, 0#16, 0#16, 0#32, [], [], [], []⟩
def ctlGood (x : Ctl) : Prop := x.serial.length ≤ 300 ∧ x.model.length ≤ 300 ∧ x.revision.length ≤ 300 ∧ x.name.length ≤ 300
theorem cutL_le (l : List (BitVec 8)) (a n : Nat) : (cutL l a n).length ≤ n := by unfold cutL; rw [List.length_take]; omega
theorem rdC_good (t1 t4 : BitVec 8 → Bool) (l : List (BitVec 8)) : ctlGood (rdC t1 t4 l) := by
  have h : ∀ t a n, n ≤ 300 → (stripP t (cutL l a n)).length ≤ 300 := fun t a n hn => Nat.le_trans (stripP_le _ _) (Nat.le_trans (cutL_le _ _ _) hn)
  exact ⟨h _ _ _ (by decide), h _ _ _ (by decide), h _ _ _ (by decide), h _ _ _ (by decide)⟩
theorem apart_ctl : apartB ctlSpec = true := by decide +kernel
theorem ctl_apart (x : Ctl) (h : ctlOk x = true) : (∀ q ∈ ctlFs x ++ ctlTr x, q.1 + q.2.length ≤ zeros.length) ∧ (ctlFs x ++ ctlTr x).Pairwise (fun a b => a.1 + a.2.length ≤ b.1 ∨ b.1 + b.2.length ≤ a.1) := by
  unfold ctlOk at h
  simp only [Bool.and_eq_true] at h
  obtain ⟨⟨⟨h1, h2⟩, h3⟩, h4⟩ := h
  have l1 := fill_len (c := 32#8) (nameOk_len h1); have l2 := fill_len (c := 32#8) (nameOk_len h2); have l3 := fill_len (c := 32#8) (nameOk_len h3)
  have l4 : (fill x.name 256 0#8).length = 256 := fill_len (Nat.le_trans (nameOk_len h4) (by decide))
  constructor
  · intro q hq
    rcases List.mem_append.1 hq with hq | hq
    · exact (ctlFs_in x q hq).2
    · rw [zeros_len]
      have hh : ∀ q ∈ ctlTr x, q.1 + q.2.length ≤ 4096 := by
        unfold ctlTr
        simp only [List.forall_mem_cons, l1, l2, l3, l4]
        exact ⟨by decide, by decide, by decide, by decide, fun q hq => by simp at hq⟩
      exact hh q hq
  · rw [List.pairwise_append]
    refine ⟨fsOf_apart ctlSpec (ctlV x) apart_ctl, ?_, ?_⟩
    · unfold ctlTr
      simp only [List.pairwise_cons, List.forall_mem_cons, l1, l2, l3, l4]
      simp
    · rw [ctlFs_eq]
      unfold ctlTr
      simp only [List.forall_mem_cons, Wire.le_len, l1, l2, l3, l4]
      simp
theorem ctl_cut (x : Ctl) (h : ctlOk x = true) (a : Nat) (s : List (BitVec 8)) (hm : (a, s) ∈ ctlFs x ++ ctlTr x) : cutL (ctlB x) a s.length = s := by
  obtain ⟨h1, h2⟩ := ctl_apart x h
  have := Lay.lays_read h1 h2 (a, s) hm
  rw [ctl_ref x h] at this
  exact this
theorem ctl_num (x : Ctl) (h : ctlOk x = true) (s : Nat × Kd × Nat) (v : BitVec 64) (hm : (s, v) ∈ ctlSpec.zip (ctlV x)) : Wire.getV (cutL (ctlB x) s.1 s.2.1.size) = v := by
  have hq : (s.1, Wire.le v s.2.1.size) ∈ ctlFs x := by
    unfold ctlFs fsOf; exact List.mem_map.2 ⟨(s, v), hm, rfl⟩
  have hc := ctl_cut x h s.1 (Wire.le v s.2.1.size) (List.mem_append_left _ hq)
  rw [Wire.le_len] at hc
  have h1 := s.2.1.size_pos
  rw [hc]
  have hE : Wire.getE (Wire.le v s.2.1.size) = 0 := by unfold Wire.getE; rw [Wire.le_len, if_neg (by omega)]
  unfold Wire.getV
  rw [if_pos hE]
  exact Wire.get_le v _ h1.2 (fun h => trunc_fits _ v (ctl_fits x (s, v) hm).2.1 h)
theorem nameOk_last {s : List (BitVec 8)} {n : Nat} (h : nameOk s n = true) : ∀ y, s.getLast? = some y → Wire.plainB y = true ∧ y ≠ 32#8 := by
  unfold nameOk at h
  simp only [Bool.and_eq_true, decide_eq_true_eq] at h
  obtain ⟨⟨h1, h2⟩, h3⟩ := h
  intro y hy
  refine ⟨?_, fun e => ?_⟩
  · unfold Wire.plain at h2
    exact List.all_eq_true.1 h2 y (List.mem_of_getLast? hy)
  · subst e; rw [hy] at h3; simp at h3
theorem strip_name (t : BitVec 8 → Bool) (ht : ∀ y, t y = true → y = 32#8 ∨ y = 0#8) {s : List (BitVec 8)} {n m : Nat} (c : BitVec 8) (hc : t c = true) (h : nameOk s n = true) : stripP t (fill s m c) = s := by
  unfold fill
  refine stripP_fill t s _ c hc (fun y hy => ?_)
  obtain ⟨h1, h2⟩ := nameOk_last h y hy
  cases hy2 : t y with
  | false => rfl
  | true =>
    rcases ht y hy2 with rfl | rfl
    · exact absurd rfl h2
    · exact absurd h1 (by decide)
theorem rdC_back (t1 t4 : BitVec 8 → Bool) (h1 : t1 32#8 = true) (h4 : t4 0#8 = true) (g1 : ∀ y, t1 y = true → y = 32#8 ∨ y = 0#8) (g4 : ∀ y, t4 y = true → y = 32#8 ∨ y = 0#8) (x : Ctl) (h : ctlOk x = true) : rdC t1 t4 (ctlB x) = x := by
  have hk := h
  unfold ctlOk at hk
  simp only [Bool.and_eq_true] at hk
  obtain ⟨⟨⟨k1, k2⟩, k3⟩, k4⟩ := hk
  have c1 := ctl_cut x h 4 (fill x.serial 20 32#8) (List.mem_append_right _ (by simp [ctlTr]))
  have c2 := ctl_cut x h 24 (fill x.model 40 32#8) (List.mem_append_right _ (by simp [ctlTr]))
  have c3 := ctl_cut x h 64 (fill x.revision 8 32#8) (List.mem_append_right _ (by simp [ctlTr]))
  have c4 := ctl_cut x h 768 (fill x.name 256 0#8) (List.mem_append_right _ (by simp [ctlTr]))
  rw [fill_len (nameOk_len k1)] at c1
  rw [fill_len (nameOk_len k2)] at c2
  rw [fill_len (nameOk_len k3)] at c3
  rw [fill_len (Nat.le_trans (nameOk_len k4) (by decide))] at c4
  have e0 := ctl_num x h (0, .u16, 0) (x.vendor.setWidth 64) (by simp [ctlSpec, ctlV])
  have e1 := ctl_num x h (2, .u16, 1) (x.subvendor.setWidth 64) (by simp [ctlSpec, ctlV])
  have e2 := ctl_num x h (77, .u8, 2) (x.maxTransfer.setWidth 64) (by simp [ctlSpec, ctlV])
  have e3 := ctl_num x h (78, .u16, 3) (x.controller.setWidth 64) (by simp [ctlSpec, ctlV])
  have e4 := ctl_num x h (80, .u32, 4) (x.version.setWidth 64) (by simp [ctlSpec, ctlV])
  have e5 := ctl_num x h (256, .u16, 5) (x.admin.setWidth 64) (by simp [ctlSpec, ctlV])
  have e6 := ctl_num x h (258, .u8, 6) (x.aborts.setWidth 64) (by simp [ctlSpec, ctlV])
  have e7 := ctl_num x h (259, .u8, 7) (x.events.setWidth 64) (by simp [ctlSpec, ctlV])
  have e8 := ctl_num x h (260, .u8, 8) (x.firmware.setWidth 64) (by simp [ctlSpec, ctlV])
  have e9 := ctl_num x h (261, .u8, 9) (x.logs.setWidth 64) (by simp [ctlSpec, ctlV])
  have e10 := ctl_num x h (262, .u8, 10) (x.errors.setWidth 64) (by simp [ctlSpec, ctlV])
  have e11 := ctl_num x h (263, .u8, 11) (x.powers.setWidth 64) (by simp [ctlSpec, ctlV])
  have e12 := ctl_num x h (320, .u16, 12) (x.keepAlive.setWidth 64) (by simp [ctlSpec, ctlV])
  have e13 := ctl_num x h (512, .u8, 13) (x.entrySizes.setWidth 64) (by simp [ctlSpec, ctlV])
  have e14 := ctl_num x h (513, .u8, 14) (x.responseSizes.setWidth 64) (by simp [ctlSpec, ctlV])
  have e15 := ctl_num x h (514, .u16, 15) (x.commands.setWidth 64) (by simp [ctlSpec, ctlV])
  have e16 := ctl_num x h (516, .u32, 16) (x.namespaces.setWidth 64) (by simp [ctlSpec, ctlV])
  have e17 := ctl_num x h (520, .u16, 17) (x.optional.setWidth 64) (by simp [ctlSpec, ctlV])
  have e18 := ctl_num x h (525, .u8, 18) (x.cache.setWidth 64) (by simp [ctlSpec, ctlV])
  have e19 := ctl_num x h (526, .u16, 19) (x.atomic.setWidth 64) (by simp [ctlSpec, ctlV])
  have e20 := ctl_num x h (528, .u16, 20) (x.powerAtomic.setWidth 64) (by simp [ctlSpec, ctlV])
  have e21 := ctl_num x h (536, .u32, 21) (x.lists.setWidth 64) (by simp [ctlSpec, ctlV])
  simp only [Kd.size] at e0 e1 e2 e3 e4 e5 e6 e7 e8 e9 e10 e11 e12 e13 e14 e15 e16 e17 e18 e19 e20 e21
  unfold rdC
  rw [e0, e1, e2, e3, e4, e5, e6, e7, e8, e9, e10, e11, e12, e13, e14, e15, e16, e17, e18, e19, e20, e21, c1, c2, c3, c4, strip_name t1 g1 32#8 h1 k1, strip_name t1 g1 32#8 h1 k2, strip_name t1 g1 32#8 h1 k3, strip_name t4 g4 0#8 h4 k4]
  simp only [BitVec.setWidth_setWidth_of_le, BitVec.setWidth_eq, Nat.reduceLeDiff, Nat.le_refl]
theorem rdm_back (x : Ctl) (h : ctlOk x = true) : rdC blk blk (ctlB x) = x := rdC_back blk blk rfl rfl (fun y h => by unfold blk at h; simpa using h) (fun y h => by unfold blk at h; simpa using h) x h
theorem rdr_back (x : Ctl) (h : ctlOk x = true) : rdC is32 is0 (ctlB x) = x := rdC_back is32 is0 rfl rfl (fun y h => by unfold is32 at h; exact .inl (by simpa using h)) (fun y h => by unfold is0 at h; exact .inr (by simpa using h)) x h
/-- Both readers decode to the same. -/
theorem dec_ctl (l : List (BitVec 8)) : decV (rdC is32 is0) ctlOk ctlB ctlZ l = decV (rdC blk blk) ctlOk ctlB ctlZ l :=
  decV_eq _ _ _ _ _ ctlGood (rdC_good _ _) (rdC_good _ _) (fun x _ h => rdr_back x h) (fun x _ h => rdm_back x h) l
end Idn
end Go.Proofs.YthnnopjakpjoeaaDoor
namespace Go.Proofs.YthnnopjakpjoeaaDoor
open Go.RowKit Idn
set_option linter.unusedVariables false
set_option linter.unusedSimpArgs false
theorem BytesV.keepX {B : Nat → Prop} {w : World} {v : Value} {l : List (BitVec 8)} (h : BytesV w v l) (y : KeepT B w) (hn : Off B v) : BytesV y.val v l := by
  obtain ⟨a, c, e, h0, h1, h2, h3⟩ := h
  refine ⟨a, c, e, h0, h1, h2, ?_⟩
  rcases h3 with h | ⟨b, o, rfl, h⟩
  · exact .inl h
  · refine .inr ⟨b, o, rfl, fun i hi => ?_⟩
    rw [List.getElem?_eq_getElem hi]
    exact y.cell ((h i hi).trans (List.getElem?_eq_getElem hi)) (hn _ _ _ _ e)
theorem Ctl.cells_one (x : Ctl) : (Ctl.cells x).toArray.all (·.oneCell') = true := by simp [Ctl.cells, Value.oneCell']
namespace Idn
theorem blk_ofBitVec (x : BitVec 8) : ([32, 0] : List UInt8).contains (UInt8.ofBitVec x) = blk x := by
  have h1 : (UInt8.ofBitVec x == 32) = (x == 32#8) := Wire.ofBitVec_beq x
  have h2 : (UInt8.ofBitVec x == 0) = (x == 0#8) := by
    by_cases h : x = 0#8
    · subst h; rfl
    · have hn : UInt8.ofBitVec x ≠ 0 := fun e => h (by have := congrArg UInt8.toBitVec e; simpa using this)
      rw [beq_false_of_ne hn, beq_false_of_ne h]
  unfold blk
  rw [List.contains_cons, List.contains_cons, List.contains_nil, Bool.or_false, h1, h2]
theorem dropWhile_blk (l : List (BitVec 8)) : (l.map UInt8.ofBitVec).dropWhile (([32, 0] : List UInt8).contains ·) = (l.dropWhile blk).map UInt8.ofBitVec := by
  induction l with
  | nil => rfl
  | cons x l ih =>
    rw [List.map_cons, List.dropWhile_cons, List.dropWhile_cons, blk_ofBitVec]
    cases blk x
    · rfl
    · exact ih
theorem trim_blk (l : List (BitVec 8)) : (⟨(Lib.trimRightS (strOf l).data.toList (⟨#[32, 0]⟩ : ByteArray).data.toList).toArray⟩ : ByteArray) = strOf (stripP blk l) := by
  have h : (strOf l).data.toList = l.map UInt8.ofBitVec := rfl
  unfold Lib.trimRightS stripP
  rw [h, ← List.map_reverse]
  show (⟨(((l.reverse.map UInt8.ofBitVec).dropWhile (([32, 0] : List UInt8).contains ·)).reverse).toArray⟩ : ByteArray) = _
  rw [dropWhile_blk, ← List.map_reverse]; rfl
/-- The controller when k of its texts have been read. -/
def rdCk (l : List (BitVec 8)) (k : Nat) : Ctl := { rdC blk blk l with serial := if 0 < k then stripP blk (cutL l 4 20) else [], model := if 1 < k then stripP blk (cutL l 24 40) else [], revision := if 2 < k then stripP blk (cutL l 64 8) else [], name := if 3 < k then stripP blk (cutL l 768 256) else [] }
def txC (l : List (BitVec 8)) (k : Nat) : Array Value := (Ctl.cells (rdCk l k)).toArray
set_option maxRecDepth 100000 in
theorem readS_ctl (l : List (BitVec 8)) : readS l (Ctl.cells ctlZ).toArray ctlSpec = txC l 0 := by
  simp only [readS, ctlSpec, Ctl.cells, List.foldl_cons, List.foldl_nil, List.setIfInBounds_toArray, List.set_cons_zero, List.set_cons_succ]
  rfl
theorem txC_0 (l : List (BitVec 8)) : (txC l 0).setIfInBounds 22 (.string (strOf (stripP blk (cutL l 4 20)))) = txC l 1 := rfl
theorem txC_1 (l : List (BitVec 8)) : (txC l 1).setIfInBounds 23 (.string (strOf (stripP blk (cutL l 24 40)))) = txC l 2 := rfl
theorem txC_2 (l : List (BitVec 8)) : (txC l 2).setIfInBounds 24 (.string (strOf (stripP blk (cutL l 64 8)))) = txC l 3 := rfl
theorem txC_3 (l : List (BitVec 8)) : (txC l 3).setIfInBounds 25 (.string (strOf (stripP blk (cutL l 768 256)))) = txC l 4 := rfl
theorem txC_4 (l : List (BitVec 8)) : txC l 4 = (Ctl.cells (rdC blk blk l)).toArray := rfl
end Idn
theorem trim_at (l m : List (BitVec 8)) (w : World) (hl : l.length ≤ 9223372036854775807) (hm : stripP blk l = m) :
    Calls Tryd.prog 76 #[.string (strOf l), .string ⟨#[32, 0]⟩] w fun e w' => e = .returned (.string (strOf m)) ∧ Below w.heap.size w w' := by
  subst hm
  have h := Any.strings_TrimRight_laid Tryd.lays162 (by kernel_rfl) (strOf l) ⟨#[32, 0]⟩ w (by rw [str_size]; exact hl) (by decide) (ascii_of_all (by decide))
  rw [trim_blk] at h
  exact h
set_option maxHeartbeats 6400000 in
set_option maxRecDepth 100000 in
theorem readCt_at (X bbox : Nat) (bv : Value) (l : List (BitVec 8)) (w : World) (hb : BytesV w bv l) (hl : l.length = 4096) (hbb : w.heap[bbox]? = some (.cells #[bv] 22 (0, 0))) (hoff : Off (fun b => b = X) bv) (hne : ¬ bbox = X)
    (hx : w.heap[X]? = some (.cells (Ctl.cells ctlZ).toArray 38 (0, 0))) :
    Calls Tryd.prog 72 #[.pointer (some ⟨X, 0, none⟩), .pointer (some ⟨bbox, 0, none⟩)] w fun e w' => e = .returned (.tuple #[]) ∧ w'.heap[X]? = some (.cells (Ctl.cells (rdC blk blk l)).toArray 38 (0, 0)) ∧ Chg (fun b => b = X) w w' := by
  obtain ⟨g, o, cv, rfl⟩ := hb.shapeAt (by omega)
  have hcap : l.length ≤ cv ∧ cv ≤ 9223372036854775807 := by obtain ⟨_, _, e, _, h1, h2, _⟩ := hb; injection e with _ _ e; rw [e]; exact ⟨h1, h2⟩
  rw [hl] at hb hbb hcap hoff
  obtain ⟨hc1, hc2⟩ := hcap
  have BV := Lib.hid hb; have HX := Lib.hid hx; have OFF := Lib.hid hoff; have HL := Lib.hid hl; have BB := Lib.hid hbb; have NE := Lib.hid hne
  have HXW := Lib.hid (Array.getElem?_eq_some_iff.1 hx).1
  have q0 : ∀ y : KeepT (fun b => b = X) w, y.val.cell? ⟨bbox, 0, none⟩ = some (.slice (some ⟨g, o, none⟩) 4096 cv) := fun y => y.cell ((cell_of_row _ _ 0 _ _ _ hbb).trans rfl) hne
  clear hb hbb hl hoff hx hne
  go_enter Tryd.func72, Tryd.ntmps72
  go_upto_region 0 with (fail)
  refine wp_region_planW (fun b => b = X) [(true, 0), (true, 1), (false, 2), (false, 3)] (by kernel_rfl) (by kernel_rfl) (by intro c a d v w h; cases d <;> exact h) ?_
  intro W1 K1 C1
  repeat (refine wpS_firm rfl (fun K hK => ?_); simp only [Keep]; go_simp; refine hK _ ?_; clear hK K)
  refine wpS_chain rfl ?_
  go_wp2_with (go_at_call 74; go_loud (refine (controller_any X _).mono ?_; rintro r w3 ⟨pv, ps, rfl, hsv, hkey, hps, hnv, hw⟩; have SV := Lib.hid hsv; have KEY := Lib.hid hkey; have PS := Lib.hid hps; have NV := Lib.hid hnv; have K2 := Lib.hid (K1.out.below hw); have C2 := Lib.hid (gr_tr C1.out hw); clear hsv hkey hps hnv hw))
  refine ⟨K2.out, ?_⟩
  refine wpS_chain rfl ?_
  go_wp2_with (go_at_call 73; go_loud (refine (load_any X 38 (Ctl.cells ctlZ).toArray _ pv l ps _ (BV.out.below C2.out) HL.out OFF.out SV.out (fun g o n c e h => by have := NV.out g o n c e; have := C1.out.size; have := HXW.out; omega) (blk_below HX.out C2.out) (fit_all KEY.out (by decide +kernel) PS.out (by have := C1.out.size; have := HXW.out; omega))).mono ?_; rw [readC_key KEY.out, readS_ctl]; rintro r w4 ⟨rfl, hx4, hc⟩; have X4 := Lib.hid hx4; have K3 := Lib.hid (K2.out.chg hc (fun k h => .inl h)); have C3 := Lib.hid ((Chg.of_below (B := fun b => b = X) C2.out).trans hc); clear hx4 hc))
  refine ⟨K3.out, ?_⟩
  unfold wpS
  clear q0
  go_upto_region 2 with (go_at_call 75; go_loud (refine (texts_any X _).mono ?_; rintro r w5 ⟨rfl, hw⟩; have X5 := Lib.hid (blk_below X4.out hw); have C5 := Lib.hid (C3.out.trans (Chg.of_below (B := fun b => b = X) hw)); clear hw))
  clear X4 C3 K1 K2 K3 C1 C2 SV KEY PS NV
  go_loopw [11] (fun i wr => ∃ k : Nat, k ≤ 4 ∧ i = .int .i64 k ∧ wr.heap[X]? = some (.cells (txC l k) 38 (0, 0)) ∧ Chg (fun b => b = X) w wr) (fun i _ => 4 - (intOf i).toNat)
  case atStart => exact ⟨0, by omega, rfl, X5.out, C5.out⟩
  case round =>
    clear X5 C5
    obtain ⟨k, hk, rfl, hx, hc⟩ := hrel
    have BX := Lib.hid hx; have C := Lib.hid hc; clear hx hc
    have hk5 : k = 0 ∨ k = 1 ∨ k = 2 ∨ k = 3 ∨ k = 4 := by omega
    rcases hk5 with rfl | rfl | rfl | rfl | rfl
    · have e : ((0 : Nat) : Int) = 0 := rfl
      rw [e]; clear e
      go_upto_region 4 with (first
        | (refine wpList_index_txt rfl (.tmp 10) (.tmp 11) rfl X rfl 0 rfl #[.pointer (some ⟨X, 22, none⟩), .int .i64 4, .int .i64 20, .int .i64 20] (by simp) ?_)
        | (refine wpList_store_new rfl 156 (.tmp 4) (.tmp 13) rfl #[.pointer (some ⟨X, 22, none⟩), .int .i64 4, .int .i64 20, .int .i64 20] 156 _ rfl rfl (by kernel_rfl) rfl (by simp [Value.oneCell']) ?_; intro w6 hh hb; have HH := Lib.hid hh; have HB6 := Lib.hid hb; clear hh hb))
      have BX6 := Lib.hid (blk_below BX.out HB6.out)
      have C6 := Lib.hid (C.out.trans (Chg.of_below (B := fun b => b = X) HB6.out))
      have BV6 := Lib.hid (BV.out.chg C6.out OFF.out)
      have BB6 := Lib.hid (C6.out.blk BB.out NE.out)
      have hnX : ¬ wr.heap.size = X := by have := C.out.size; have := HXW.out; omega
      have q0 : ∀ y : KeepT (fun b => b = X) w6, y.val.cell? ⟨wr.heap.size, 0, none⟩ = some (.pointer (some ⟨X, 22, none⟩)) := fun y => y.cell (cell_of_row _ _ 0 _ _ _ HH.out) hnX
      have q1 : ∀ y : KeepT (fun b => b = X) w6, y.val.cell? ⟨wr.heap.size, 1, none⟩ = some (.int .i64 4) := fun y => y.cell (cell_of_row _ _ 1 _ _ _ HH.out) hnX
      have q2 : ∀ y : KeepT (fun b => b = X) w6, y.val.cell? ⟨wr.heap.size, 2, none⟩ = some (.int .i64 20) := fun y => y.cell (cell_of_row _ _ 2 _ _ _ HH.out) hnX
      have qb : ∀ y : KeepT (fun b => b = X) w6, y.val.cell? ⟨bbox, 0, none⟩ = some (.slice (some ⟨g, o, none⟩) 4096 cv) := fun y => y.cell ((cell_of_row _ _ 0 _ _ _ BB6.out).trans rfl) NE.out
      have hsl : ∀ w', (Instr.slice 22 (.slice (some ⟨g, o, none⟩) 4096 cv) (some (.int .i64 4)) (some (.int .i64 24)) none).run Tryd.prog w' = .ok (.slice (some ⟨g, o + 4, none⟩) 20 (cv - 4)) w' := run_cutL g o 4096 cv 4 24 (by decide) (by omega) (by omega) hc2
      have hwr : IntKind.i64.wrap 24 = 24 := by decide
      have hcA : (cv = 4) = False := eq_false (by omega)
      have hcB : ((24 : Int) ≤ (cv : Int)) = True := eq_true (by omega)
      have bvc := Lib.hid (BV6.out.cutN 4 20 (by rw [HL.out]; decide))
      have qs : ∀ y : KeepT (fun b => b = X) w6, (convert 22 9 (.slice (some ⟨g, o + 4, none⟩) 20 (cv - 4))).run Tryd.prog y.val = .ok (.string (strOf (cutL l 4 20))) y.val := fun y => str_at (bvc.out.keepX y (fun g' o' n' c' e => by cases e; exact OFF.out _ _ _ _ rfl))
      obtain ⟨m, hm⟩ : ∃ m, stripP blk (cutL l 4 20) = m := ⟨_, rfl⟩
      have HM := Lib.hid hm
      have hst := txC_0 l
      rw [hm] at hst
      have HST := Lib.hid hst
      clear hm hst
      refine wp_region_planW (fun b => b = X) [(true, 0), (true, 1), (true, 2), (true, 3), (true, 4), (true, 5), (true, 6), (true, 7), (true, 8), (true, 9), (true, 10), (true, 11), (false, 12), (true, 13), (false, 14)] (by kernel_rfl) (by kernel_rfl) (by intro c a d v w h; cases d <;> exact h) ?_
      intro W1 K1 C1
      repeat (refine wpS_firm rfl (fun K hK => ?_); simp only [Keep]; go_simp; refine hK _ ?_; clear hK K)
      refine wpS_chain rfl ?_
      go_wp2_with (go_at_call 76; go_loud (refine (trim_at (cutL l 4 20) m _ (by have := cutL_le l 4 20; omega) HM.out).mono ?_; rintro r w7 ⟨rfl, hw⟩; have K2 := Lib.hid (K1.out.below hw); have D7 := Lib.hid (gr_tr C1.out hw); clear hw))
      refine ⟨K2.out, ?_⟩
      repeat (refine wpS_firm rfl (fun K hK => ?_); simp only [Keep]; go_simp; refine hK _ ?_; clear hK K)
      have BX7 := Lib.hid (blk_below BX6.out D7.out)
      have cX := (cell_of_row _ _ 22 _ _ _ BX7.out).trans (show (txC l 0)[22]? = some (.string (strOf [])) from rfl)
      have fX := frozen_of_row _ _ 22 _ _ BX7.out
      refine wpS_chain rfl ?_
      go_wp2
      refine ⟨K2.out.put rfl _, ?_⟩
      unfold wpS
      go_wp2
      go_roundw
      case rel => exact ⟨1, by omega, rfl, by rw [← HST.out]; exact heap_setCell_same _ _ _ _ _ _ BX7.out, (C6.out.trans (Chg.of_below (B := fun b => b = X) D7.out)).trans (Chg.setCell (B := fun b => b = X) (p := ⟨X, 22, none⟩) _ rfl _)⟩
      case measure => simp [intOf]
    · have e : ((1 : Nat) : Int) = 1 := rfl
      rw [e]; clear e
      go_upto_region 4 with (first
        | (refine wpList_index_txt rfl (.tmp 10) (.tmp 11) rfl X rfl 1 rfl #[.pointer (some ⟨X, 23, none⟩), .int .i64 24, .int .i64 40, .int .i64 40] (by simp) ?_)
        | (refine wpList_store_new rfl 156 (.tmp 4) (.tmp 13) rfl #[.pointer (some ⟨X, 23, none⟩), .int .i64 24, .int .i64 40, .int .i64 40] 156 _ rfl rfl (by kernel_rfl) rfl (by simp [Value.oneCell']) ?_; intro w6 hh hb; have HH := Lib.hid hh; have HB6 := Lib.hid hb; clear hh hb))
      have BX6 := Lib.hid (blk_below BX.out HB6.out)
      have C6 := Lib.hid (C.out.trans (Chg.of_below (B := fun b => b = X) HB6.out))
      have BV6 := Lib.hid (BV.out.chg C6.out OFF.out)
      have BB6 := Lib.hid (C6.out.blk BB.out NE.out)
      have hnX : ¬ wr.heap.size = X := by have := C.out.size; have := HXW.out; omega
      have q0 : ∀ y : KeepT (fun b => b = X) w6, y.val.cell? ⟨wr.heap.size, 0, none⟩ = some (.pointer (some ⟨X, 23, none⟩)) := fun y => y.cell (cell_of_row _ _ 0 _ _ _ HH.out) hnX
      have q1 : ∀ y : KeepT (fun b => b = X) w6, y.val.cell? ⟨wr.heap.size, 1, none⟩ = some (.int .i64 24) := fun y => y.cell (cell_of_row _ _ 1 _ _ _ HH.out) hnX
      have q2 : ∀ y : KeepT (fun b => b = X) w6, y.val.cell? ⟨wr.heap.size, 2, none⟩ = some (.int .i64 40) := fun y => y.cell (cell_of_row _ _ 2 _ _ _ HH.out) hnX
      have qb : ∀ y : KeepT (fun b => b = X) w6, y.val.cell? ⟨bbox, 0, none⟩ = some (.slice (some ⟨g, o, none⟩) 4096 cv) := fun y => y.cell ((cell_of_row _ _ 0 _ _ _ BB6.out).trans rfl) NE.out
      have hsl : ∀ w', (Instr.slice 22 (.slice (some ⟨g, o, none⟩) 4096 cv) (some (.int .i64 24)) (some (.int .i64 64)) none).run Tryd.prog w' = .ok (.slice (some ⟨g, o + 24, none⟩) 40 (cv - 24)) w' := run_cutL g o 4096 cv 24 64 (by decide) (by omega) (by omega) hc2
      have hwr : IntKind.i64.wrap 64 = 64 := by decide
      have hcA : (cv = 24) = False := eq_false (by omega)
      have hcB : ((64 : Int) ≤ (cv : Int)) = True := eq_true (by omega)
      have bvc := Lib.hid (BV6.out.cutN 24 40 (by rw [HL.out]; decide))
      have qs : ∀ y : KeepT (fun b => b = X) w6, (convert 22 9 (.slice (some ⟨g, o + 24, none⟩) 40 (cv - 24))).run Tryd.prog y.val = .ok (.string (strOf (cutL l 24 40))) y.val := fun y => str_at (bvc.out.keepX y (fun g' o' n' c' e => by cases e; exact OFF.out _ _ _ _ rfl))
      obtain ⟨m, hm⟩ : ∃ m, stripP blk (cutL l 24 40) = m := ⟨_, rfl⟩
      have HM := Lib.hid hm
      have hst := txC_1 l
      rw [hm] at hst
      have HST := Lib.hid hst
      clear hm hst
      refine wp_region_planW (fun b => b = X) [(true, 0), (true, 1), (true, 2), (true, 3), (true, 4), (true, 5), (true, 6), (true, 7), (true, 8), (true, 9), (true, 10), (true, 11), (false, 12), (true, 13), (false, 14)] (by kernel_rfl) (by kernel_rfl) (by intro c a d v w h; cases d <;> exact h) ?_
      intro W1 K1 C1
      repeat (refine wpS_firm rfl (fun K hK => ?_); simp only [Keep]; go_simp; refine hK _ ?_; clear hK K)
      refine wpS_chain rfl ?_
      go_wp2_with (go_at_call 76; go_loud (refine (trim_at (cutL l 24 40) m _ (by have := cutL_le l 24 40; omega) HM.out).mono ?_; rintro r w7 ⟨rfl, hw⟩; have K2 := Lib.hid (K1.out.below hw); have D7 := Lib.hid (gr_tr C1.out hw); clear hw))
      refine ⟨K2.out, ?_⟩
      repeat (refine wpS_firm rfl (fun K hK => ?_); simp only [Keep]; go_simp; refine hK _ ?_; clear hK K)
      have BX7 := Lib.hid (blk_below BX6.out D7.out)
      have cX := (cell_of_row _ _ 23 _ _ _ BX7.out).trans (show (txC l 1)[23]? = some (.string (strOf [])) from rfl)
      have fX := frozen_of_row _ _ 23 _ _ BX7.out
      refine wpS_chain rfl ?_
      go_wp2
      refine ⟨K2.out.put rfl _, ?_⟩
      unfold wpS
      go_wp2
      go_roundw
      case rel => exact ⟨2, by omega, rfl, by rw [← HST.out]; exact heap_setCell_same _ _ _ _ _ _ BX7.out, (C6.out.trans (Chg.of_below (B := fun b => b = X) D7.out)).trans (Chg.setCell (B := fun b => b = X) (p := ⟨X, 23, none⟩) _ rfl _)⟩
      case measure => simp [intOf]
    · have e : ((2 : Nat) : Int) = 2 := rfl
      rw [e]; clear e
      go_upto_region 4 with (first
        | (refine wpList_index_txt rfl (.tmp 10) (.tmp 11) rfl X rfl 2 rfl #[.pointer (some ⟨X, 24, none⟩), .int .i64 64, .int .i64 8, .int .i64 8] (by simp) ?_)
        | (refine wpList_store_new rfl 156 (.tmp 4) (.tmp 13) rfl #[.pointer (some ⟨X, 24, none⟩), .int .i64 64, .int .i64 8, .int .i64 8] 156 _ rfl rfl (by kernel_rfl) rfl (by simp [Value.oneCell']) ?_; intro w6 hh hb; have HH := Lib.hid hh; have HB6 := Lib.hid hb; clear hh hb))
      have BX6 := Lib.hid (blk_below BX.out HB6.out)
      have C6 := Lib.hid (C.out.trans (Chg.of_below (B := fun b => b = X) HB6.out))
      have BV6 := Lib.hid (BV.out.chg C6.out OFF.out)
      have BB6 := Lib.hid (C6.out.blk BB.out NE.out)
      have hnX : ¬ wr.heap.size = X := by have := C.out.size; have := HXW.out; omega
      have q0 : ∀ y : KeepT (fun b => b = X) w6, y.val.cell? ⟨wr.heap.size, 0, none⟩ = some (.pointer (some ⟨X, 24, none⟩)) := fun y => y.cell (cell_of_row _ _ 0 _ _ _ HH.out) hnX
      have q1 : ∀ y : KeepT (fun b => b = X) w6, y.val.cell? ⟨wr.heap.size, 1, none⟩ = some (.int .i64 64) := fun y => y.cell (cell_of_row _ _ 1 _ _ _ HH.out) hnX
      have q2 : ∀ y : KeepT (fun b => b = X) w6, y.val.cell? ⟨wr.heap.size, 2, none⟩ = some (.int .i64 8) := fun y => y.cell (cell_of_row _ _ 2 _ _ _ HH.out) hnX
      have qb : ∀ y : KeepT (fun b => b = X) w6, y.val.cell? ⟨bbox, 0, none⟩ = some (.slice (some ⟨g, o, none⟩) 4096 cv) := fun y => y.cell ((cell_of_row _ _ 0 _ _ _ BB6.out).trans rfl) NE.out
      have hsl : ∀ w', (Instr.slice 22 (.slice (some ⟨g, o, none⟩) 4096 cv) (some (.int .i64 64)) (some (.int .i64 72)) none).run Tryd.prog w' = .ok (.slice (some ⟨g, o + 64, none⟩) 8 (cv - 64)) w' := run_cutL g o 4096 cv 64 72 (by decide) (by omega) (by omega) hc2
      have hwr : IntKind.i64.wrap 72 = 72 := by decide
      have hcA : (cv = 64) = False := eq_false (by omega)
      have hcB : ((72 : Int) ≤ (cv : Int)) = True := eq_true (by omega)
      have bvc := Lib.hid (BV6.out.cutN 64 8 (by rw [HL.out]; decide))
      have qs : ∀ y : KeepT (fun b => b = X) w6, (convert 22 9 (.slice (some ⟨g, o + 64, none⟩) 8 (cv - 64))).run Tryd.prog y.val = .ok (.string (strOf (cutL l 64 8))) y.val := fun y => str_at (bvc.out.keepX y (fun g' o' n' c' e => by cases e; exact OFF.out _ _ _ _ rfl))
      obtain ⟨m, hm⟩ : ∃ m, stripP blk (cutL l 64 8) = m := ⟨_, rfl⟩
      have HM := Lib.hid hm
      have hst := txC_2 l
      rw [hm] at hst
      have HST := Lib.hid hst
      clear hm hst
      refine wp_region_planW (fun b => b = X) [(true, 0), (true, 1), (true, 2), (true, 3), (true, 4), (true, 5), (true, 6), (true, 7), (true, 8), (true, 9), (true, 10), (true, 11), (false, 12), (true, 13), (false, 14)] (by kernel_rfl) (by kernel_rfl) (by intro c a d v w h; cases d <;> exact h) ?_
      intro W1 K1 C1
      repeat (refine wpS_firm rfl (fun K hK => ?_); simp only [Keep]; go_simp; refine hK _ ?_; clear hK K)
      refine wpS_chain rfl ?_
      go_wp2_with (go_at_call 76; go_loud (refine (trim_at (cutL l 64 8) m _ (by have := cutL_le l 64 8; omega) HM.out).mono ?_; rintro r w7 ⟨rfl, hw⟩; have K2 := Lib.hid (K1.out.below hw); have D7 := Lib.hid (gr_tr C1.out hw); clear hw))
      refine ⟨K2.out, ?_⟩
      repeat (refine wpS_firm rfl (fun K hK => ?_); simp only [Keep]; go_simp; refine hK _ ?_; clear hK K)
      have BX7 := Lib.hid (blk_below BX6.out D7.out)
      have cX := (cell_of_row _ _ 24 _ _ _ BX7.out).trans (show (txC l 2)[24]? = some (.string (strOf [])) from rfl)
      have fX := frozen_of_row _ _ 24 _ _ BX7.out
      refine wpS_chain rfl ?_
      go_wp2
      refine ⟨K2.out.put rfl _, ?_⟩
      unfold wpS
      go_wp2
      go_roundw
      case rel => exact ⟨3, by omega, rfl, by rw [← HST.out]; exact heap_setCell_same _ _ _ _ _ _ BX7.out, (C6.out.trans (Chg.of_below (B := fun b => b = X) D7.out)).trans (Chg.setCell (B := fun b => b = X) (p := ⟨X, 24, none⟩) _ rfl _)⟩
      case measure => simp [intOf]
    · have e : ((3 : Nat) : Int) = 3 := rfl
      rw [e]; clear e
      go_upto_region 4 with (first
        | (refine wpList_index_txt rfl (.tmp 10) (.tmp 11) rfl X rfl 3 rfl #[.pointer (some ⟨X, 25, none⟩), .int .i64 768, .int .i64 256, .int .i64 223] (by simp) ?_)
        | (refine wpList_store_new rfl 156 (.tmp 4) (.tmp 13) rfl #[.pointer (some ⟨X, 25, none⟩), .int .i64 768, .int .i64 256, .int .i64 223] 156 _ rfl rfl (by kernel_rfl) rfl (by simp [Value.oneCell']) ?_; intro w6 hh hb; have HH := Lib.hid hh; have HB6 := Lib.hid hb; clear hh hb))
      have BX6 := Lib.hid (blk_below BX.out HB6.out)
      have C6 := Lib.hid (C.out.trans (Chg.of_below (B := fun b => b = X) HB6.out))
      have BV6 := Lib.hid (BV.out.chg C6.out OFF.out)
      have BB6 := Lib.hid (C6.out.blk BB.out NE.out)
      have hnX : ¬ wr.heap.size = X := by have := C.out.size; have := HXW.out; omega
      have q0 : ∀ y : KeepT (fun b => b = X) w6, y.val.cell? ⟨wr.heap.size, 0, none⟩ = some (.pointer (some ⟨X, 25, none⟩)) := fun y => y.cell (cell_of_row _ _ 0 _ _ _ HH.out) hnX
      have q1 : ∀ y : KeepT (fun b => b = X) w6, y.val.cell? ⟨wr.heap.size, 1, none⟩ = some (.int .i64 768) := fun y => y.cell (cell_of_row _ _ 1 _ _ _ HH.out) hnX
      have q2 : ∀ y : KeepT (fun b => b = X) w6, y.val.cell? ⟨wr.heap.size, 2, none⟩ = some (.int .i64 256) := fun y => y.cell (cell_of_row _ _ 2 _ _ _ HH.out) hnX
      have qb : ∀ y : KeepT (fun b => b = X) w6, y.val.cell? ⟨bbox, 0, none⟩ = some (.slice (some ⟨g, o, none⟩) 4096 cv) := fun y => y.cell ((cell_of_row _ _ 0 _ _ _ BB6.out).trans rfl) NE.out
      have hsl : ∀ w', (Instr.slice 22 (.slice (some ⟨g, o, none⟩) 4096 cv) (some (.int .i64 768)) (some (.int .i64 1024)) none).run Tryd.prog w' = .ok (.slice (some ⟨g, o + 768, none⟩) 256 (cv - 768)) w' := run_cutL g o 4096 cv 768 1024 (by decide) (by omega) (by omega) hc2
      have hwr : IntKind.i64.wrap 1024 = 1024 := by decide
      have hcA : (cv = 768) = False := eq_false (by omega)
      have hcB : ((1024 : Int) ≤ (cv : Int)) = True := eq_true (by omega)
      have bvc := Lib.hid (BV6.out.cutN 768 256 (by rw [HL.out]; decide))
      have qs : ∀ y : KeepT (fun b => b = X) w6, (convert 22 9 (.slice (some ⟨g, o + 768, none⟩) 256 (cv - 768))).run Tryd.prog y.val = .ok (.string (strOf (cutL l 768 256))) y.val := fun y => str_at (bvc.out.keepX y (fun g' o' n' c' e => by cases e; exact OFF.out _ _ _ _ rfl))
      obtain ⟨m, hm⟩ : ∃ m, stripP blk (cutL l 768 256) = m := ⟨_, rfl⟩
      have HM := Lib.hid hm
      have hst := txC_3 l
      rw [hm] at hst
      have HST := Lib.hid hst
      clear hm hst
      refine wp_region_planW (fun b => b = X) [(true, 0), (true, 1), (true, 2), (true, 3), (true, 4), (true, 5), (true, 6), (true, 7), (true, 8), (true, 9), (true, 10), (true, 11), (false, 12), (true, 13), (false, 14)] (by kernel_rfl) (by kernel_rfl) (by intro c a d v w h; cases d <;> exact h) ?_
      intro W1 K1 C1
      repeat (refine wpS_firm rfl (fun K hK => ?_); simp only [Keep]; go_simp; refine hK _ ?_; clear hK K)
      refine wpS_chain rfl ?_
      go_wp2_with (go_at_call 76; go_loud (refine (trim_at (cutL l 768 256) m _ (by have := cutL_le l 768 256; omega) HM.out).mono ?_; rintro r w7 ⟨rfl, hw⟩; have K2 := Lib.hid (K1.out.below hw); have D7 := Lib.hid (gr_tr C1.out hw); clear hw))
      refine ⟨K2.out, ?_⟩
      repeat (refine wpS_firm rfl (fun K hK => ?_); simp only [Keep]; go_simp; refine hK _ ?_; clear hK K)
      have BX7 := Lib.hid (blk_below BX6.out D7.out)
      have cX := (cell_of_row _ _ 25 _ _ _ BX7.out).trans (show (txC l 3)[25]? = some (.string (strOf [])) from rfl)
      have fX := frozen_of_row _ _ 25 _ _ BX7.out
      refine wpS_chain rfl ?_
      go_wp2
      refine ⟨K2.out.put rfl _, ?_⟩
      unfold wpS
      go_wp2
      go_roundw
      case rel => exact ⟨4, by omega, rfl, by rw [← HST.out]; exact heap_setCell_same _ _ _ _ _ _ BX7.out, (C6.out.trans (Chg.of_below (B := fun b => b = X) D7.out)).trans (Chg.setCell (B := fun b => b = X) (p := ⟨X, 25, none⟩) _ rfl _)⟩
      case measure => simp [intOf]
    · have e : ((4 : Nat) : Int) = 4 := rfl
      rw [e]; clear e
      go_wp2
      go_end0
      exact ⟨rfl, by rw [← txC_4]; exact BX.out, C.out⟩
theorem EncCt_ok (x : Ctl) (w : World) (hg : ctlGood x) (h : ctlOk x = true) : Calls Tryd.prog 32 #[.agg (Ctl.cells x).toArray] w fun e w' => ∃ u, e = .returned (.tuple #[u, .int .i64 0]) ∧ BytesV w' u (ctlB x) ∧ Below w.heap.size w w' := by
  refine (EncC_at x w hg).mono ?_
  rintro r w' ⟨u, rfl, hu, hw⟩
  unfold ctlE ctlR at *
  rw [if_pos h] at hu
  rw [if_pos h]
  exact ⟨u, rfl, hu, hw⟩
theorem EncCt_no (x : Ctl) (w : World) (hg : ctlGood x) (h : ctlOk x = false) : Calls Tryd.prog 32 #[.agg (Ctl.cells x).toArray] w fun e w' => ∃ u, e = .returned (.tuple #[u, .int .i64 2]) ∧ BytesV w' u [] ∧ Below w.heap.size w w' := by
  refine (EncC_at x w hg).mono ?_
  rintro r w' ⟨u, rfl, hu, hw⟩
  unfold ctlE ctlR at *
  rw [h] at hu ⊢
  exact ⟨u, rfl, hu, hw⟩
set_option maxRecDepth 100000 in
theorem Ctl_lit : (Ctl.cells ctlZ).toArray = #[.int .u16 0, .int .u16 0, .int .u8 0, .int .u16 0, .int .u32 0, .int .u16 0, .int .u8 0, .int .u8 0, .int .u8 0, .int .u8 0, .int .u8 0, .int .u8 0, .int .u16 0, .int .u8 0, .int .u8 0, .int .u16 0, .int .u32 0, .int .u16 0, .int .u8 0, .int .u16 0, .int .u16 0, .int .u32 0, .string ⟨#[]⟩, .string ⟨#[]⟩, .string ⟨#[]⟩, .string ⟨#[]⟩] := by rfl
set_option maxHeartbeats 6400000 in
set_option maxRecDepth 100000 in
theorem decoded_Ctl (l : List (BitVec 8)) (bv : Value) (bbox : Nat) (w : World) (y : Ctl) (e : Int) (hb : BytesV w bv l) (hl : l.length ≤ 140737488355328) (hbb : w.heap[bbox]? = some (.cells #[bv] 22 (0, 0))) (hd : decV (rdC blk blk) ctlOk ctlB ctlZ l = (y, e)) :
    Calls Tryd.prog 71 #[bv, .func (.func 72) #[] #[.pointer (some ⟨bbox, 0, none⟩)], .func (.func 32) #[] #[]] w fun r w' => r = .returned (.tuple #[.agg (Ctl.cells y).toArray, .int .i64 e]) ∧ Below w.heap.size w w' := by
  obtain ⟨av, cv, rfl, hv0, hv1, hv2, hv3⟩ := id hb
  have hm : l.length ≤ 9223372036854775807 := by omega
  have BV := Lib.hid hb; have BB := Lib.hid hbb
  have SctlZ := Lib.hid (show (Ctl.cells ctlZ).toArray.size = 26 by rw [Ctl_lit]; rfl)
  obtain ⟨V, hV⟩ : ∃ V, V = w.alloc (.cells (Ctl.cells ctlZ).toArray 38) := ⟨_, rfl⟩
  have DV := Lib.hid (show Below w.heap.size w V by rw [hV]; exact gr_alloc w _)
  have XV := Lib.hid (show V.heap[w.heap.size]? = some (.cells (Ctl.cells ctlZ).toArray 38 (0, 0)) by rw [hV]; exact heap_alloc_new w _)
  have VS := Lib.hid (show w.heap.size < V.heap.size by rw [hV]; simp)
  rw [Ctl_lit] at hV
  have HV := Lib.hid hV
  clear hb hbb hv0 hv1 hv2 hv3 hV
  unfold decV at hd
  by_cases p1 : l.length < 4096
  · rw [if_pos p1] at hd
    cases hd
    have d1 : decide ((l.length : Int) < 4096) = true := decide_eq_true (by omega)
    clear p1
    go_enter Tryd.func71, Tryd.ntmps71
    go_upto_region 1 with (fail)
    rw [← HV.out]
    go_wp2_with (first
      | (refine wpList_load_row rfl 38 (.tmp 6) rfl w.heap.size rfl 38 _ (0, 0) _ XV.out Tryd.underlying38 rfl (by rw [SctlZ.out]; kernel_rfl) ?_)
      | (refine wpList_store_row rfl 38 (.tmp 6) (.tmp 15) rfl w.heap.size (Ctl.cells ctlZ).toArray rfl rfl 38 _ XV.out (by rw [SctlZ.out]; kernel_rfl) rfl (Ctl.cells_one _) ?_))
    exact bodyPost_ret (results_row_tmp rfl _ _ w.heap.size 38 (Ctl.cells ctlZ).toArray (0, 0) _ rfl (setRow_heap _ _ _ _ _ _ XV.out) Tryd.underlying38 rfl (by rw [SctlZ.out]; kernel_rfl)) rfl ⟨rfl, below_setRow DV.out (Nat.le_refl _) _⟩
  · rw [if_neg p1] at hd
    by_cases p2 : 4096 < l.length
    · rw [if_pos p2] at hd
      cases hd
      have d1 : decide ((l.length : Int) < 4096) = false := decide_eq_false (by omega)
      have d2 : decide (4096 < (l.length : Int)) = true := decide_eq_true (by omega)
      clear p1 p2
      go_enter Tryd.func71, Tryd.ntmps71
      go_upto_region 1 with (fail)
      rw [← HV.out]
      go_wp2_with (first
        | (refine wpList_load_row rfl 38 (.tmp 6) rfl w.heap.size rfl 38 _ (0, 0) _ XV.out Tryd.underlying38 rfl (by rw [SctlZ.out]; kernel_rfl) ?_)
        | (refine wpList_store_row rfl 38 (.tmp 6) (.tmp 20) rfl w.heap.size (Ctl.cells ctlZ).toArray rfl rfl 38 _ XV.out (by rw [SctlZ.out]; kernel_rfl) rfl (Ctl.cells_one _) ?_))
      exact bodyPost_ret (results_row_tmp rfl _ _ w.heap.size 38 (Ctl.cells ctlZ).toArray (0, 0) _ rfl (setRow_heap _ _ _ _ _ _ XV.out) Tryd.underlying38 rfl (by rw [SctlZ.out]; kernel_rfl)) rfl ⟨rfl, below_setRow DV.out (Nat.le_refl _) _⟩
    · rw [if_neg p2] at hd
      have d1 : decide ((l.length : Int) < 4096) = false := decide_eq_false (by omega)
      have d2 : decide (4096 < (l.length : Int)) = false := decide_eq_false (by omega)
      have hl4 : l.length = 4096 := by omega
      have HD := Lib.hid hd; have HL4 := Lib.hid hl4
      clear p1 p2 hd hl4
      obtain ⟨x, hx⟩ : ∃ x, (rdC blk blk) l = x := ⟨_, rfl⟩
      have HX := Lib.hid hx
      have SZX := Lib.hid (show (Ctl.cells x).toArray.size = 26 by rfl)
      clear hx
      obtain ⟨bo, hbo⟩ : ∃ b, ctlOk x = b := ⟨_, rfl⟩
      have HO := Lib.hid hbo; clear hbo
      obtain ⟨W, hW⟩ : ∃ W, W = V.alloc (.cells (Ctl.cells ctlZ).toArray 38) := ⟨_, rfl⟩
      have D := Lib.hid (show Below w.heap.size w W by rw [hW]; exact gr_tr DV.out (gr_alloc V _))
      have XA := Lib.hid (show W.heap[w.heap.size]? = some (.cells (Ctl.cells ctlZ).toArray 38 (0, 0)) by rw [hW]; exact blk_below XV.out (gr_alloc V _))
      have XB := Lib.hid (show W.heap[V.heap.size]? = some (.cells (Ctl.cells ctlZ).toArray 38 (0, 0)) by rw [hW]; exact heap_alloc_new V _)
      rw [Ctl_lit] at hW
      have HW := Lib.hid hW; clear hW
      have HBW := Lib.hid (Array.getElem?_eq_some_iff.1 BB.out).1
      have hgl : ∀ g o n c, Value.slice av l.length cv = .slice (some ⟨g, o, none⟩) n c → g < w.heap.size := slice_lt BV.out (by rw [HL4.out]; decide)
      have GL := Lib.hid hgl; clear hgl
      go_enter Tryd.func71, Tryd.ntmps71
      go_upto_region 1 with (fail)
      rw [← HV.out]
      go_upto_region 6 with (fail)
      rw [← HW.out]
      go_upto_region 7 with (go_at_call 72; go_loud (refine (readCt_at V.heap.size bbox _ l _ (BV.out.below D.out) HL4.out (blk_below BB.out D.out) (fun g o n c e h => by have := GL.out g o n c e; have := VS.out; omega) (fun h => by have := HBW.out; have := VS.out; omega) XB.out).mono ?_; rw [HX.out]; rintro r w3 ⟨rfl, hx3, hc⟩; have X3 := Lib.hid hx3; have C3 := Lib.hid hc; have D3 := Lib.hid (hc.fresh D.out (fun k h => by have := VS.out; omega)); have A3 := Lib.hid (hc.blk XA.out (by have := VS.out; omega)); have BV3 := Lib.hid (BV.out.below D3.out); clear hx3 hc))
      cases bo
      · have EN := Lib.hid (fun W => EncCt_no x W (by rw [← HX.out]; exact rdC_good _ _ l) HO.out)
        go_wp2_with (first
          | (refine wpList_load_row rfl 38 (.tmp 8) rfl V.heap.size rfl 38 _ (0, 0) _ X3.out Tryd.underlying38 rfl (by rw [SZX.out]; kernel_rfl) ?_)
          | (refine wpList_load_row rfl 38 (.tmp 6) rfl w.heap.size rfl 38 _ (0, 0) _ A4.out Tryd.underlying38 rfl (by rw [SctlZ.out]; kernel_rfl) ?_)
          | (refine wpList_store_row rfl 38 (.tmp 6) (.tmp 37) rfl w.heap.size (Ctl.cells ctlZ).toArray rfl rfl 38 _ A4.out (by rw [SctlZ.out]; kernel_rfl) rfl (Ctl.cells_one _) ?_)
          | (go_at_call 32; go_loud (refine (EN.out _).mono ?_; rintro r w4 ⟨u, rfl, hu, hw⟩; have U := Lib.hid hu; have D4 := Lib.hid (gr_tr D3.out hw); have A4 := Lib.hid (blk_below A3.out hw); have X4 := Lib.hid (blk_below X3.out hw); have BV4 := Lib.hid (BV3.out.below hw); clear hu hw)))
        obtain ⟨e1, e2⟩ : y = ctlZ ∧ e = 6 := by
          have h := HD.out
          rw [HX.out, HO.out] at h
          simp at h
          exact ⟨h.1.symm, h.2.symm⟩
        rw [e1, e2]
        exact bodyPost_ret (results_row_tmp rfl _ _ w.heap.size 38 (Ctl.cells ctlZ).toArray (0, 0) _ rfl (setRow_heap _ _ _ _ _ _ A4.out) Tryd.underlying38 rfl (by rw [SctlZ.out]; kernel_rfl)) rfl ⟨rfl, below_setRow D4.out (Nat.le_refl _) _⟩
      · have EN := Lib.hid (fun W => EncCt_ok x W (by rw [← HX.out]; exact rdC_good _ _ l) HO.out)
        obtain ⟨bq, hbq⟩ : ∃ b, (ctlB x == l) = b := ⟨_, rfl⟩
        have HQ := Lib.hid hbq; clear hbq
        cases bq
        · skip
          go_wp2_with (first
            | (refine wpList_load_row rfl 38 (.tmp 8) rfl V.heap.size rfl 38 _ (0, 0) _ X3.out Tryd.underlying38 rfl (by rw [SZX.out]; kernel_rfl) ?_)
            | (refine wpList_load_row rfl 38 (.tmp 6) rfl w.heap.size rfl 38 _ (0, 0) _ A4.out Tryd.underlying38 rfl (by rw [SctlZ.out]; kernel_rfl) ?_)
            | (refine wpList_store_row rfl 38 (.tmp 6) (.tmp 37) rfl w.heap.size (Ctl.cells ctlZ).toArray rfl rfl 38 _ A4.out (by rw [SctlZ.out]; kernel_rfl) rfl (Ctl.cells_one _) ?_)
            | (go_at_call 32; go_loud (refine (EN.out _).mono ?_; rintro r w4 ⟨u, rfl, hu, hw⟩; have U := Lib.hid hu; have D4 := Lib.hid (gr_tr D3.out hw); have A4 := Lib.hid (blk_below A3.out hw); have X4 := Lib.hid (blk_below X3.out hw); have BV4 := Lib.hid (BV3.out.below hw); clear hu hw))
            | (go_at_call 128; go_loud (refine (Equal_at _ _ _ _ _ _ U.out BV4.out HQ.out).mono ?_; rintro r w5 ⟨rfl, rfl⟩)))
          obtain ⟨e1, e2⟩ : y = ctlZ ∧ e = 6 := by
            have h := HD.out
            rw [HX.out, HO.out, HQ.out] at h
            simp at h
            exact ⟨h.1.symm, h.2.symm⟩
          rw [e1, e2]
          exact bodyPost_ret (results_row_tmp rfl _ _ w.heap.size 38 (Ctl.cells ctlZ).toArray (0, 0) _ rfl (setRow_heap _ _ _ _ _ _ A4.out) Tryd.underlying38 rfl (by rw [SctlZ.out]; kernel_rfl)) rfl ⟨rfl, below_setRow D4.out (Nat.le_refl _) _⟩
        · skip
          go_wp2_with (first
            | (refine wpList_load_row rfl 38 (.tmp 8) rfl V.heap.size rfl 38 _ (0, 0) _ X3.out Tryd.underlying38 rfl (by rw [SZX.out]; kernel_rfl) ?_)
            | (refine wpList_load_row rfl 38 (.tmp 8) rfl V.heap.size rfl 38 _ (0, 0) _ X4.out Tryd.underlying38 rfl (by rw [SZX.out]; kernel_rfl) ?_)
            | (refine wpList_store_row rfl 38 (.tmp 6) (.tmp 38) rfl w.heap.size (Ctl.cells x).toArray rfl rfl 38 _ A4.out (by rw [SZX.out]; kernel_rfl) (by rw [SZX.out, SctlZ.out]) (Ctl.cells_one _) ?_)
            | (go_at_call 32; go_loud (refine (EN.out _).mono ?_; rintro r w4 ⟨u, rfl, hu, hw⟩; have U := Lib.hid hu; have D4 := Lib.hid (gr_tr D3.out hw); have A4 := Lib.hid (blk_below A3.out hw); have X4 := Lib.hid (blk_below X3.out hw); have BV4 := Lib.hid (BV3.out.below hw); clear hu hw))
            | (go_at_call 128; go_loud (refine (Equal_at _ _ _ _ _ _ U.out BV4.out HQ.out).mono ?_; rintro r w5 ⟨rfl, rfl⟩)))
          obtain ⟨e1, e2⟩ : y = x ∧ e = 0 := by
            have h := HD.out
            rw [HX.out, HO.out, HQ.out] at h
            simp at h
            exact ⟨h.1.symm, h.2.symm⟩
          rw [e1, e2]
          exact bodyPost_ret (results_row_tmp rfl _ _ w.heap.size 38 (Ctl.cells x).toArray (0, 0) _ rfl (setRow_heap _ _ _ _ _ _ A4.out) Tryd.underlying38 rfl (by rw [SZX.out]; kernel_rfl)) rfl ⟨rfl, below_setRow D4.out (Nat.le_refl _) _⟩
set_option maxHeartbeats 6400000 in
set_option maxRecDepth 100000 in
theorem Decode_Ctl (l : List (BitVec 8)) (bv : Value) (w : World) (y : Ctl) (e : Int) (hsz : (Ctl.cells y).toArray.size = 26) (hb : BytesV w bv l) (hl : l.length ≤ 140737488355328) (hd : decV (rdC blk blk) ctlOk ctlB ctlZ l = (y, e)) :
    Calls Tryd.prog 23 #[bv] w fun r w' => r = .returned (.tuple #[.agg (Ctl.cells y).toArray, .int .i64 e]) ∧ Below w.heap.size w w' := by
  have hmf : ∀ (fn : Fn) (first cap : Array Value) (w : World), (Instr.makeFunc fn first cap).run Tryd.prog w = .ok (.func fn first cap) w := fun _ _ _ _ => rfl
  obtain ⟨av, cv, rfl, hv0, hv1, hv2, hv3⟩ := id hb
  have SctlZ := Lib.hid (show (Ctl.cells ctlZ).toArray.size = 26 by rw [Ctl_lit]; rfl)
  have HSZ := Lib.hid hsz
  clear hsz
  obtain ⟨bv, hbv⟩ : ∃ v, v = Value.slice av l.length cv := ⟨_, rfl⟩
  have BV := Lib.hid (show BytesV w bv l by rw [hbv]; exact hb); have HD := Lib.hid hd
  rw [← hbv]
  clear hv0 hv1 hv2 hv3
  obtain ⟨W, hW⟩ : ∃ W, W = (w.alloc (.cells #[bv] 22)).alloc (.cells (Ctl.cells ctlZ).toArray 38) := ⟨_, rfl⟩
  have D := Lib.hid (show Below w.heap.size w W by rw [hW]; exact gr_tr (gr_alloc w _) (gr_alloc _ _))
  have BB := Lib.hid (show W.heap[w.heap.size]? = some (.cells #[bv] 22 (0, 0)) by rw [hW]; exact blk_below (heap_alloc_new w _) (gr_alloc _ _))
  have XB := Lib.hid (show W.heap[w.heap.size + 1]? = some (.cells (Ctl.cells ctlZ).toArray 38 (0, 0)) by rw [hW]; have := heap_alloc_new (w.alloc (.cells #[bv] 22)) (.cells (Ctl.cells ctlZ).toArray 38); rwa [World.size_alloc] at this)
  rw [Ctl_lit] at hW
  have HW := Lib.hid hW
  have cb : W.cell? ⟨w.heap.size, 0, none⟩ = some bv := (cell_of_row _ _ 0 _ _ _ BB.out).trans rfl
  have HBV := Lib.hid hbv
  clear hW hb hd
  rw [HBV.out] at HW BV BB cb ⊢
  clear hbv
  go_enter Tryd.func23, Tryd.ntmps23
  go_upto_region 1 with (fail)
  rw [← HW.out]
  go_wp2_with (first
    | (go_at_call 71; go_loud (refine (decoded_Ctl l _ w.heap.size _ y e (BV.out.below D.out) hl BB.out HD.out).mono ?_; rintro r w3 ⟨rfl, hw⟩; have D3 := Lib.hid (gr_tr D.out hw); have X3 := Lib.hid (blk_below XB.out hw); clear hw))
    | (refine wpList_store_row rfl 38 (.tmp 2) (.tmp 7) rfl (w.heap.size + 1) (Ctl.cells y).toArray rfl rfl 38 _ X3.out (by rw [HSZ.out]; kernel_rfl) (by rw [HSZ.out, SctlZ.out]) (Ctl.cells_one _) ?_))
  exact bodyPost_ret (results_row_tmp rfl _ _ (w.heap.size + 1) 38 (Ctl.cells y).toArray (0, 0) _ rfl (setRow_heap _ _ _ _ _ _ X3.out) Tryd.underlying38 rfl (by rw [HSZ.out]; kernel_rfl)) rfl ⟨rfl, below_setRow D3.out (by omega) _⟩
end Go.Proofs.YthnnopjakpjoeaaDoor
namespace Go.Proofs.YthnnopjakpjoeaaDoor
open Go.RowKit Idn
set_option linter.unusedVariables false
set_option linter.unusedSimpArgs false
set_option linter.unusedVariables false
set_option linter.unusedSimpArgs false
set_option maxHeartbeats 1600000 in
set_option maxRecDepth 100000 in
theorem ctl_eql (x : Ctl) (w : World) : (binOp .eql 38 (.agg (Ctl.cells x).toArray) (.agg (Ctl.cells x).toArray)).run Tryd.prog w = .ok (.bool true) w := by
  refine eql_self (fun w => self_struct (by kernel_rfl) (by kernel_rfl) ?_ w) w
  rw [show Tryd.prog.fieldsOf 38 = _ from by unfold Program.fieldsOf; rw [Tryd.underlying38]]
  simp only [List.forall_mem_cons, List.not_mem_nil, false_implies, implies_true, and_true]
  refine ⟨?_, ?_, ?_, ?_, ?_, ?_, ?_, ?_, ?_, ?_, ?_, ?_, ?_, ?_, ?_, ?_, ?_, ?_, ?_, ?_, ?_, ?_, ?_, ?_, ?_, ?_⟩
  · exact selfAt_int (d := 9998) (k := .u16) (a := uv x.vendor) Tryd.underlying36 rfl
  · exact selfAt_int (d := 9998) (k := .u16) (a := uv x.subvendor) Tryd.underlying36 rfl
  · exact selfAt_int (d := 9998) (k := .u8) (a := uv x.maxTransfer) Tryd.underlying5 rfl
  · exact selfAt_int (d := 9998) (k := .u16) (a := uv x.controller) Tryd.underlying36 rfl
  · exact selfAt_int (d := 9998) (k := .u32) (a := uv x.version) Tryd.underlying24 rfl
  · exact selfAt_int (d := 9998) (k := .u16) (a := uv x.admin) Tryd.underlying36 rfl
  · exact selfAt_int (d := 9998) (k := .u8) (a := uv x.aborts) Tryd.underlying5 rfl
  · exact selfAt_int (d := 9998) (k := .u8) (a := uv x.events) Tryd.underlying5 rfl
  · exact selfAt_int (d := 9998) (k := .u8) (a := uv x.firmware) Tryd.underlying5 rfl
  · exact selfAt_int (d := 9998) (k := .u8) (a := uv x.logs) Tryd.underlying5 rfl
  · exact selfAt_int (d := 9998) (k := .u8) (a := uv x.errors) Tryd.underlying5 rfl
  · exact selfAt_int (d := 9998) (k := .u8) (a := uv x.powers) Tryd.underlying5 rfl
  · exact selfAt_int (d := 9998) (k := .u16) (a := uv x.keepAlive) Tryd.underlying36 rfl
  · exact selfAt_int (d := 9998) (k := .u8) (a := uv x.entrySizes) Tryd.underlying5 rfl
  · exact selfAt_int (d := 9998) (k := .u8) (a := uv x.responseSizes) Tryd.underlying5 rfl
  · exact selfAt_int (d := 9998) (k := .u16) (a := uv x.commands) Tryd.underlying36 rfl
  · exact selfAt_int (d := 9998) (k := .u32) (a := uv x.namespaces) Tryd.underlying24 rfl
  · exact selfAt_int (d := 9998) (k := .u16) (a := uv x.optional) Tryd.underlying36 rfl
  · exact selfAt_int (d := 9998) (k := .u8) (a := uv x.cache) Tryd.underlying5 rfl
  · exact selfAt_int (d := 9998) (k := .u16) (a := uv x.atomic) Tryd.underlying36 rfl
  · exact selfAt_int (d := 9998) (k := .u16) (a := uv x.powerAtomic) Tryd.underlying36 rfl
  · exact selfAt_int (d := 9998) (k := .u32) (a := uv x.lists) Tryd.underlying24 rfl
  · exact selfAt_str (d := 9998) (a := strOf x.serial) Tryd.underlying9 rfl
  · exact selfAt_str (d := 9998) (a := strOf x.model) Tryd.underlying9 rfl
  · exact selfAt_str (d := 9998) (a := strOf x.revision) Tryd.underlying9 rfl
  · exact selfAt_str (d := 9998) (a := strOf x.name) Tryd.underlying9 rfl
theorem shortC_good {x : Ctl} (h : shortC x = true) : ctlGood x := by unfold shortC at h; simpa [ctlGood] using h
theorem ids_sz {x : Ids} (h : Ids.Ok x) : (Ids.cells x).toArray.size = 41 := by rw [List.size_toArray, Ids.cells_eq]; simp [h.1, h.2.1, h.2.2]
theorem neq_of_eql {t : TypeId} {xs : Array Value} {w : World} (h : (binOp .eql t (.agg xs) (.agg xs)).run Tryd.prog w = .ok (.bool true) w) : (binOp .neq t (.agg xs) (.agg xs)).run Tryd.prog w = .ok (.bool false) w := by
  rw [run_eql_struct] at h
  rw [run_neq_struct]
  cases hr : (Op.equalIn 10000 t (.agg xs) (.agg xs)).run Tryd.prog w with
  | ok b w' =>
    rw [hr] at h
    simp only [Result.andThen, Result.ok.injEq, Value.bool.injEq] at h ⊢
    obtain ⟨rfl, rfl⟩ := h
    exact ⟨rfl, rfl⟩
  | _ => rw [hr] at h; simp [Result.andThen] at h
namespace Idn
theorem decV_zero {α : Type} {rd : List (BitVec 8) → α} {ok : α → Bool} {enc : α → List (BitVec 8)} {z y : α} {l : List (BitVec 8)} (h : decV rd ok enc z l = (y, 0)) : ok y = true ∧ enc y = l ∧ y = rd l ∧ l.length = 4096 := by
  unfold decV at h
  split at h
  · injection h with _ h; exact absurd h (by decide)
  · split at h
    · injection h with _ h; exact absurd h (by decide)
    · split at h
      · rename_i h1 h2 h3
        injection h with h _
        subst h
        rw [Bool.and_eq_true, beq_iff_eq] at h3
        exact ⟨h3.1, h3.2, rfl, by omega⟩
      · injection h with _ h; exact absurd h (by decide)
end Idn
set_option maxHeartbeats 51200000 in
set_option maxRecDepth 100000 in
theorem lawBack (x : Ctl) (n : NsL) (z : Zn) (i : Ids) (bv : Value) (l : List (BitVec 8)) (w : World) (hn : NsOk n) (hi : Ids.Ok i) (hb : BytesV w bv l) :
    Calls Tryd.prog 6 #[.agg (Ctl.cells x).toArray, .agg (NsL.cells n).toArray, .agg (Zn.cells z).toArray, .agg (Ids.cells i).toArray, bv] w fun e w' => e = .returned (.bool true) ∧ Below w.heap.size w w' := by
  obtain ⟨c0, hc0⟩ : ∃ c, (Ctl.cells x).toArray = c := ⟨_, rfl⟩
  obtain ⟨c1, hc1⟩ : ∃ c, (NsL.cells n).toArray = c := ⟨_, rfl⟩
  obtain ⟨c2, hc2⟩ : ∃ c, (Zn.cells z).toArray = c := ⟨_, rfl⟩
  obtain ⟨c3, hc3⟩ : ∃ c, (Ids.cells i).toArray = c := ⟨_, rfl⟩
  have S0 := Lib.hid (show c0.size = 26 by rw [← hc0]; rfl); have S1 := Lib.hid (show c1.size = 80 by rw [← hc1]; exact ns_sz hn); have S2 := Lib.hid (show c2.size = 6 by rw [← hc2]; rfl)
  have S3 := Lib.hid (show c3.size = 41 by rw [← hc3]; exact ids_sz hi)
  rw [hc0, hc1, hc2, hc3]
  obtain ⟨W, hW⟩ : ∃ W, W = ((((w.alloc (.cells c0 38)).alloc (.cells c1 71)).alloc (.cells c2 73)).alloc (.cells c3 76)) := ⟨_, rfl⟩
  have D := Lib.hid (show Below w.heap.size w W by rw [hW]; exact gr_tr (gr_tr (gr_tr (gr_alloc w _) (gr_alloc _ _)) (gr_alloc _ _)) (gr_alloc _ _))
  have B0 := Lib.hid (show W.heap[w.heap.size]? = some (.cells c0 38 (0, 0)) by rw [hW, show w.heap.size = w.heap.size by simp only [World.size_alloc]]; exact blk_below (blk_below (blk_below (heap_alloc_new w _) (gr_alloc _ _)) (gr_alloc _ _)) (gr_alloc _ _))
  have B1 := Lib.hid (show W.heap[w.heap.size + 1]? = some (.cells c1 71 (0, 0)) by rw [hW, show w.heap.size + 1 = (w.alloc (.cells c0 38)).heap.size by simp only [World.size_alloc]]; exact blk_below (blk_below (heap_alloc_new (w.alloc (.cells c0 38)) _) (gr_alloc _ _)) (gr_alloc _ _))
  have B2 := Lib.hid (show W.heap[w.heap.size + 2]? = some (.cells c2 73 (0, 0)) by rw [hW, show w.heap.size + 2 = ((w.alloc (.cells c0 38)).alloc (.cells c1 71)).heap.size by simp only [World.size_alloc]]; exact blk_below (heap_alloc_new ((w.alloc (.cells c0 38)).alloc (.cells c1 71)) _) (gr_alloc _ _))
  have B3 := Lib.hid (show W.heap[w.heap.size + 3]? = some (.cells c3 76 (0, 0)) by rw [hW, show w.heap.size + 3 = (((w.alloc (.cells c0 38)).alloc (.cells c1 71)).alloc (.cells c2 73)).heap.size by simp only [World.size_alloc]]; exact heap_alloc_new (((w.alloc (.cells c0 38)).alloc (.cells c1 71)).alloc (.cells c2 73)) _)
  have BV := Lib.hid (hb.below D.out)
  have HW := Lib.hid hW
  have HC0 := Lib.hid hc0; have HC1 := Lib.hid hc1; have HC2 := Lib.hid hc2; have HC3 := Lib.hid hc3
  have HN := Lib.hid hn; have HI := Lib.hid hi
  obtain ⟨av, cv, rfl, hv0, hv1, hv2, hv3⟩ := id hb
  have hm : l.length ≤ 9223372036854775807 := by omega
  clear hb hW hc0 hc1 hc2 hc3 hn hi hv0 hv1 hv2 hv3
  obtain ⟨bs, hbs⟩ : ∃ b, shortC x = b := ⟨_, rfl⟩
  have HS := Lib.hid hbs; clear hbs
  obtain ⟨bo, hbo⟩ : ∃ b, ctlOk x = b := ⟨_, rfl⟩
  have HO := Lib.hid hbo; clear hbo
  obtain ⟨no, hno⟩ : ∃ b, okNs n = b := ⟨_, rfl⟩
  have HNO := Lib.hid hno; clear hno
  have q0 := fun w => neq_of_eql (ctl_eql x w)
  rw [HC0.out] at q0
  have q1 := fun w => neq_of_eql (ns_eql n HN.out w)
  rw [HC1.out] at q1
  have q2 := fun w => neq_of_eql (zn_eql z w)
  rw [HC2.out] at q2
  have q3 := fun w => neq_of_eql (ids_eql i HI.out w)
  rw [HC3.out] at q3
  have O0 := Lib.hid (show c0.all (·.oneCell') = true by rw [← HC0.out]; exact Ctl.cells_one x)
  have O1 := Lib.hid (show c1.all (·.oneCell') = true by rw [← HC1.out]; exact NsL.cells_one n)
  have O2 := Lib.hid (show c2.all (·.oneCell') = true by rw [← HC2.out]; exact Zn.cells_one z)
  have O3 := Lib.hid (show c3.all (·.oneCell') = true by rw [← HC3.out]; exact Ids.cells_one i)
  go_enter Tryd.func6, Tryd.ntmps6
  go_upto_region 1 with (fail)
  first
    | rw [← HW.out]
    | (show Code.wp _ _ _ _ ((((w.alloc (.cells c0 38)).alloc (.cells c1 71)).alloc (.cells c2 73)).alloc (.cells c3 76)); rw [← HW.out])
  cases bs
  · go_wp2_with (first
      | (refine wpList_load_row rfl 38 (.tmp 5) rfl w.heap.size rfl 38 c0 (0, 0) _ B0.out Tryd.underlying38 rfl (by rw [S0.out]; kernel_rfl) ?_)
      | (go_at_call 19; go_loud (rw [← HC0.out]; refine (short_at x false _ HS.out).mono ?_; rintro r w1 ⟨rfl, hw⟩; have D1 := Lib.hid (gr_tr D.out hw); clear hw))
      | (go_at_call 20; go_loud (refine (known_any _).mono ?_; rintro r wk ⟨rfl, hw⟩; have D2 := Lib.hid (gr_tr D1.out hw); clear hw)))
    go_ret
    exact ⟨rfl, D2.out⟩
  by_cases h5 : (5000 : Int) < l.length
  · go_wp2_with (first
      | (refine wpList_load_row rfl 38 (.tmp 5) rfl w.heap.size rfl 38 c0 (0, 0) _ B0.out Tryd.underlying38 rfl (by rw [S0.out]; kernel_rfl) ?_)
      | (go_at_call 19; go_loud (rw [← HC0.out]; refine (short_at x true _ HS.out).mono ?_; rintro r w1 ⟨rfl, hw⟩; have D1 := Lib.hid (gr_tr D.out hw); clear hw))
      | (go_at_call 20; go_loud (refine (known_any _).mono ?_; rintro r wk ⟨rfl, hw⟩; have D2 := Lib.hid (gr_tr D1.out hw); clear hw)))
    go_ret
    exact ⟨rfl, D2.out⟩
  have HL := Lib.hid (show l.length ≤ 140737488355328 by omega)
  have HL5 := Lib.hid h5
  have SHT := fun w => short_at x true w HS.out
  rw [HC0.out] at SHT
  go_upto_region 3 with (first
    | (refine wpList_load_row rfl 38 (.tmp 5) rfl w.heap.size rfl 38 c0 (0, 0) _ B0.out Tryd.underlying38 rfl (by rw [S0.out]; kernel_rfl) ?_)
    | (go_at_call 19; go_loud (refine (SHT _).mono ?_; rintro r w1 ⟨rfl, hw⟩; have E1 := Lib.hid hw; clear hw)))
  clear h5
  have EG := Lib.hid (shortC_good HS.out)
  have X0 := Lib.hid (blk_below B0.out E1.out)
  obtain ⟨A, hA⟩ : ∃ A, ctlR x = A := ⟨_, rfl⟩
  have HA := Lib.hid hA; clear hA
  obtain ⟨eA, heA⟩ : ∃ e, ctlE x = e := ⟨_, rfl⟩
  have HEA := Lib.hid heA; clear heA
  have ENC := fun w => EncC_at x w EG.out
  rw [HC0.out, HA.out, HEA.out] at ENC
  go_upto_region 4 with (first
    | (refine wpList_load_row rfl 38 (.tmp 5) rfl w.heap.size rfl 38 c0 (0, 0) _ X0.out Tryd.underlying38 rfl (by rw [S0.out]; kernel_rfl) ?_)
    | (go_at_call 32; go_loud (refine (ENC _).mono ?_; rintro r w2 ⟨u, rfl, hu, hw⟩; have U := Lib.hid hu; have E2 := Lib.hid (gr_tr E1.out hw); clear hu hw)))
  go_upto_if 44 with (fail)
  go_cut [] (fun wx => Below W.heap.size W wx)
  case first =>
    cases bo
    · have e2 : eA = 2 := by rw [← HEA.out]; unfold ctlE; rw [HO.out]; rfl
      subst e2
      have hq : ((2 : Int) == 0) = false := rfl
      go_wp2
      go_meet
      exact E2.out
    · have e2 : eA = 0 := by rw [← HEA.out]; unfold ctlE; rw [HO.out]; rfl
      subst e2
      have hq : ((0 : Int) == 0) = true := rfl
      have hAB : A = ctlB x := by rw [← HA.out]; unfold ctlR; rw [if_pos HO.out]
      have hAl := ctlB_len x HO.out
      have HD := Lib.hid (show decV (rdC blk blk) ctlOk ctlB ctlZ A = (x, 0) by rw [hAB]; exact decV_enc (rdm_back x HO.out) hAl HO.out)
      have HAL := Lib.hid (show A.length ≤ 140737488355328 by rw [hAB, hAl]; decide)
      clear hAB hAl
      go_upto_region 6 with (first
        | (go_at_call 23; go_loud (refine (Decode_Ctl A _ _ x 0 rfl U.out HAL.out HD.out).mono ?_; rw [HC0.out]; rintro r w3 ⟨rfl, hw⟩; have E3 := Lib.hid (gr_tr E2.out hw); clear hw))
        | (refine wpList_store_new rfl 38 (.tmp 13) (.tmp 48) rfl c0 38 _ rfl rfl (by rw [S0.out]; kernel_rfl) (by rw [S0.out]; rfl) O0.out ?_; intro w4 hh hb; have Y4 := Lib.hid hh; have E4 := Lib.hid (gr_tr E3.out hb); clear hh hb))
      have X4 := Lib.hid (blk_below B0.out E4.out)
      go_wp2_with (first
        | (refine wpList_unguard (by rfl) (wpList_load_row rfl 38 (.tmp 13) rfl w3.heap.size rfl 38 c0 (0, 0) _ Y4.out Tryd.underlying38 rfl (by rw [S0.out]; kernel_rfl) ?_))
        | (refine wpList_unguard (by rfl) (wpList_load_row rfl 38 (.tmp 5) rfl w.heap.size rfl 38 c0 (0, 0) _ X4.out Tryd.underlying38 rfl (by rw [S0.out]; kernel_rfl) ?_)))
      go_meet
      exact E4.out
  obtain ⟨wA, eqA⟩ : ∃ z, z = wc := ⟨_, rfl⟩
  subst eqA
  have EA := Lib.hid hcut
  clear hcut E1 E2 X0 U
  have X1 := Lib.hid (blk_below B1.out EA.out)
  clear HA HEA
  obtain ⟨A, hA⟩ : ∃ A, nsR n = A := ⟨_, rfl⟩
  have HA := Lib.hid hA; clear hA
  obtain ⟨eA, heA⟩ : ∃ e, nsE n = e := ⟨_, rfl⟩
  have HEA := Lib.hid heA; clear heA
  clear ENC
  have ENC := fun w => EncNs_at n eA A w HN.out HEA.out HA.out
  rw [HC1.out] at ENC
  go_upto_region 9 with (first
    | (refine wpList_load_row rfl 71 (.tmp 6) rfl (w.heap.size + 1) rfl 71 c1 (0, 0) _ X1.out Tryd.underlying71 rfl (by rw [S1.out]; kernel_rfl) ?_)
    | (go_at_call 33; go_loud (refine (ENC _).mono ?_; rintro r w2 ⟨u, rfl, hu, hw⟩; have U := Lib.hid hu; have E2 := Lib.hid (gr_tr EA.out hw); clear hu hw)))
  go_upto_if 63 with (fail)
  go_cut [] (fun wx => Below W.heap.size W wx)
  case first =>
    cases no
    · have e2 : eA = 2 := by rw [← HEA.out]; unfold nsE; rw [HNO.out]; rfl
      subst e2
      have hq : ((2 : Int) == 0) = false := rfl
      go_wp2
      go_meet
      exact E2.out
    · have e2 : eA = 0 := by rw [← HEA.out]; unfold nsE; rw [HNO.out]; rfl
      subst e2
      have hq : ((0 : Int) == 0) = true := rfl
      have hAB : A = nsB n := by rw [← HA.out]; unfold nsR; rw [if_pos HNO.out]
      have hAl := nsB_len n
      have HD := Lib.hid (show decV rdNs okNs nsB nsZ A = (n, 0) by rw [hAB]; exact decV_enc (rdNs_back HN.out) hAl HNO.out)
      have HAL := Lib.hid (show A.length ≤ 140737488355328 by rw [hAB, hAl]; decide)
      clear hAB hAl
      go_upto_region 11 with (first
        | (go_at_call 34; go_loud (refine (Decode_NsL A _ _ n 0 (ns_sz HN.out) U.out HAL.out HD.out).mono ?_; rw [HC1.out]; rintro r w3 ⟨rfl, hw⟩; have E3 := Lib.hid (gr_tr E2.out hw); clear hw))
        | (refine wpList_store_new rfl 71 (.tmp 17) (.tmp 67) rfl c1 71 _ rfl rfl (by rw [S1.out]; kernel_rfl) (by rw [S1.out]; rfl) O1.out ?_; intro w4 hh hb; have Y4 := Lib.hid hh; have E4 := Lib.hid (gr_tr E3.out hb); clear hh hb))
      have X4 := Lib.hid (blk_below B1.out E4.out)
      go_wp2_with (first
        | (refine wpList_unguard (by rfl) (wpList_load_row rfl 71 (.tmp 17) rfl w3.heap.size rfl 71 c1 (0, 0) _ Y4.out Tryd.underlying71 rfl (by rw [S1.out]; kernel_rfl) ?_))
        | (refine wpList_unguard (by rfl) (wpList_load_row rfl 71 (.tmp 6) rfl (w.heap.size + 1) rfl 71 c1 (0, 0) _ X4.out Tryd.underlying71 rfl (by rw [S1.out]; kernel_rfl) ?_)))
      go_meet
      exact E4.out
  obtain ⟨wB, eqB⟩ : ∃ z, z = wc := ⟨_, rfl⟩
  subst eqB
  have EB := Lib.hid hcut
  clear hcut E2 X1 U EA HA HEA
  have X2 := Lib.hid (blk_below B2.out EB.out)
  have HD := Lib.hid (show decV rdZ okZ znB znZ (znB z) = (z, 0) from decV_enc (rdZ_back z) (znB_len z) rfl)
  have HAL := Lib.hid (show (znB z).length ≤ 140737488355328 by rw [znB_len]; decide)
  clear ENC
  have ENC := fun w => EncZ_at z w
  rw [HC2.out] at ENC
  go_upto_region 14 with (first
    | (refine wpList_load_row rfl 73 (.tmp 7) rfl (w.heap.size + 2) rfl 73 c2 (0, 0) _ X2.out Tryd.underlying73 rfl (by rw [S2.out]; kernel_rfl) ?_)
    | (go_at_call 36; go_loud (refine (ENC _).mono ?_; rintro r w2 ⟨u, rfl, hu, hw⟩; have U := Lib.hid hu; have E2 := Lib.hid (gr_tr EB.out hw); clear hu hw))
    | (go_at_call 35; go_loud (refine (Decode_Zn _ _ _ z 0 rfl U.out HAL.out HD.out).mono ?_; rw [HC2.out]; rintro r w3 ⟨rfl, hw⟩; have E3 := Lib.hid (gr_tr E2.out hw); clear hw))
    | (refine wpList_store_new rfl 73 (.tmp 19) (.tmp 80) rfl c2 73 _ rfl rfl (by rw [S2.out]; kernel_rfl) (by rw [S2.out]; rfl) O2.out ?_; intro w4 hh hb; have Y4 := Lib.hid hh; have E4 := Lib.hid (gr_tr E3.out hb); clear hh hb))
  have X4 := Lib.hid (blk_below B2.out E4.out)
  go_upto_region 16 with (first
    | (refine wpList_unguard (by rfl) (wpList_load_row rfl 73 (.tmp 19) rfl w3.heap.size rfl 73 c2 (0, 0) _ Y4.out Tryd.underlying73 rfl (by rw [S2.out]; kernel_rfl) ?_))
    | (refine wpList_unguard (by rfl) (wpList_load_row rfl 73 (.tmp 7) rfl (w.heap.size + 2) rfl 73 c2 (0, 0) _ X4.out Tryd.underlying73 rfl (by rw [S2.out]; kernel_rfl) ?_)))
  have X5 := Lib.hid (blk_below B3.out E4.out)
  have HD2 := Lib.hid (show decV rdI okI idsB idsZ (idsB i) = (i, 0) from decV_enc (rdI_back i HI.out) (idsB_len i HI.out) (okI_of i HI.out))
  have HAL2 := Lib.hid (show (idsB i).length ≤ 140737488355328 by rw [idsB_len i HI.out]; decide)
  clear ENC
  have ENC := fun w => EncI_at i w HI.out
  rw [HC3.out] at ENC
  go_upto_region 17 with (first
    | (refine wpList_load_row rfl 76 (.tmp 8) rfl (w.heap.size + 3) rfl 76 c3 (0, 0) _ X5.out Tryd.underlying76 rfl (by rw [S3.out]; kernel_rfl) ?_)
    | (go_at_call 38; go_loud (refine (ENC _).mono ?_; rintro r w5 ⟨u, rfl, hu, hw⟩; have U5 := Lib.hid hu; have E5 := Lib.hid (gr_tr E4.out hw); clear hu hw))
    | (go_at_call 37; go_loud (refine (Decode_Ids _ _ _ i 0 (ids_sz HI.out) U5.out HAL2.out HD2.out).mono ?_; rw [HC3.out]; rintro r w6 ⟨rfl, hw⟩; have E6 := Lib.hid (gr_tr E5.out hw); clear hw))
    | (refine wpList_store_new rfl 76 (.tmp 21) (.tmp 93) rfl c3 76 _ rfl rfl (by rw [S3.out]; kernel_rfl) (by rw [S3.out]; rfl) O3.out ?_; intro w7 hh hb; have Y7 := Lib.hid hh; have E7 := Lib.hid (gr_tr E6.out hb); clear hh hb))
  have X7 := Lib.hid (blk_below B3.out E7.out)
  go_upto_region 19 with (first
    | (refine wpList_unguard (by rfl) (wpList_load_row rfl 76 (.tmp 21) rfl w6.heap.size rfl 76 c3 (0, 0) _ Y7.out Tryd.underlying76 rfl (by rw [S3.out]; kernel_rfl) ?_))
    | (refine wpList_unguard (by rfl) (wpList_load_row rfl 76 (.tmp 8) rfl (w.heap.size + 3) rfl 76 c3 (0, 0) _ X7.out Tryd.underlying76 rfl (by rw [S3.out]; kernel_rfl) ?_)))
  obtain ⟨y, e, hye⟩ : ∃ y e, decV (rdC blk blk) ctlOk ctlB ctlZ l = (y, e) := ⟨_, _, rfl⟩
  have HYE := Lib.hid hye
  have hll : (l == l) = true := beq_self_eq_true l
  obtain ⟨cy, hcy⟩ : ∃ c, (Ctl.cells y).toArray = c := ⟨_, rfl⟩
  have HCY := Lib.hid hcy
  have YSZ := Lib.hid (show cy.size = 26 by rw [← hcy]; rfl)
  have YON := Lib.hid (show cy.all (·.oneCell') = true by rw [← hcy]; exact Ctl.cells_one y)
  clear hcy ENC
  have BV7 := Lib.hid (BV.out.below E7.out)
  clear hye
  obtain ⟨be, hbe⟩ : ∃ b, (e == 0) = b := ⟨_, rfl⟩
  go_upto_region 20 with (first
    | (go_at_call 23; go_loud (refine (Decode_Ctl l _ _ y e rfl BV7.out HL.out HYE.out).mono ?_; rw [HCY.out]; rintro r w8 ⟨rfl, hw⟩; have E8 := Lib.hid (gr_tr E7.out hw); clear hw))
    | (refine wpList_store_new rfl 38 (.tmp 23) (.tmp 105) rfl cy 38 _ rfl rfl (by rw [YSZ.out]; kernel_rfl) (by rw [YSZ.out]; rfl) YON.out ?_; intro w9 hh hb; have Y9 := Lib.hid hh; have E9 := Lib.hid (gr_tr E8.out hb); clear hh hb))
  go_upto_if 108 with (fail)
  go_cut [] (fun wx => Below W.heap.size W wx)
  case first =>
    cases be
    rotate_left
    · have e0 : e = 0 := by simpa using hbe
      subst e0
      clear hbe
      obtain ⟨f1, f2, f3, f4⟩ := decV_zero HYE.out
      have YG := Lib.hid (show ctlGood y by rw [f3]; exact rdC_good _ _ l)
      have F1 := Lib.hid f1; have F2 := Lib.hid f2
      clear f1 f2 f3 f4
      have ENC := fun w => EncCt_ok y w YG.out F1.out
      rw [HCY.out, F2.out] at ENC
      have BV9 := Lib.hid (BV.out.below E9.out)
      go_wp2_with (first
        | (refine wpList_load_row rfl 38 (.tmp 23) rfl w8.heap.size rfl 38 cy (0, 0) _ Y9.out Tryd.underlying38 rfl (by rw [YSZ.out]; kernel_rfl) ?_)
        | (go_at_call 32; go_loud (refine (ENC _).mono ?_; rintro r w10 ⟨u, rfl, hu, hw⟩; have U10 := Lib.hid hu; have BV10 := Lib.hid (BV9.out.below hw); have E10 := Lib.hid (gr_tr E9.out hw); clear hu hw))
        | (go_at_call 17; go_loud (refine (Same_any _ _ _ _ _ U10.out BV10.out).mono ?_; rintro r w11 ⟨rfl, hw11⟩; subst hw11; rw [hll])))
      go_meet
      exact E10.out
    · go_wp2
      go_meet
      exact E9.out
  obtain ⟨wC, eqC⟩ : ∃ z, z = wc := ⟨_, rfl⟩
  subst eqC
  have EC := Lib.hid hcut
  clear hcut hbe
  obtain ⟨s, f, hsf⟩ : ∃ y e, decV rdI okI idsB idsZ l = (y, e) := ⟨_, _, rfl⟩
  have HSF := Lib.hid hsf
  have hsz : (Ids.cells s).toArray.size = 41 := by
    have h := hsf
    unfold decV at h
    split at h
    · injection h with h _; subst h; rfl
    · split at h
      · injection h with h _; subst h; rfl
      · split at h
        · injection h with h _; subst h; exact ids_sz (rdI_ok (by omega))
        · injection h with h _; subst h; rfl
  obtain ⟨ci, hci⟩ : ∃ c, (Ids.cells s).toArray = c := ⟨_, rfl⟩
  have ISZ0 := Lib.hid hsz
  have HCI := Lib.hid hci
  rw [hci] at hsz
  have ISZ := Lib.hid hsz
  have ION := Lib.hid (show ci.all (·.oneCell') = true by rw [← hci]; exact Ids.cells_one s)
  clear hci
  have BVC := Lib.hid (BV.out.below EC.out)
  clear hsf hsz
  go_upto_region 25 with (first
    | (go_at_call 37; go_loud (refine (Decode_Ids l _ _ s f ISZ0.out BVC.out HL.out HSF.out).mono ?_; rw [HCI.out]; rintro r w12 ⟨rfl, hw⟩; have E12 := Lib.hid (gr_tr EC.out hw); clear hw))
    | (refine wpList_store_new rfl 76 (.tmp 27) (.tmp 125) rfl ci 76 _ rfl rfl (by rw [ISZ.out]; kernel_rfl) (by rw [ISZ.out]; rfl) ION.out ?_; intro w13 hh hb; have Y13 := Lib.hid hh; have E13 := Lib.hid (gr_tr E12.out hb); clear hh hb))
  by_cases e0 : f = 0
  · subst e0
    have hq : ((0 : Int) == 0) = true := rfl
    obtain ⟨f1, f2, f3, f4⟩ := decV_zero HSF.out
    have YG := Lib.hid (show Ids.Ok s by rw [f3]; exact rdI_ok f4)
    have F2 := Lib.hid f2
    clear f1 f2 f3 f4
    have ENC := fun w => EncI_at s w YG.out
    rw [HCI.out, F2.out] at ENC
    have BV13 := Lib.hid (BV.out.below E13.out)
    go_wp2_with (first
      | (refine wpList_unguard (by rfl) (wpList_load_row rfl 76 (.tmp 27) rfl w12.heap.size rfl 76 ci (0, 0) _ Y13.out Tryd.underlying76 rfl (by rw [ISZ.out]; kernel_rfl) ?_))
      | (go_at_call 38; go_loud (refine (ENC _).mono ?_; rintro r w14 ⟨u, rfl, hu, hw⟩; have U14 := Lib.hid hu; have BV14 := Lib.hid (BV13.out.below hw); have E14 := Lib.hid (gr_tr E13.out hw); clear hu hw))
      | (go_at_call 17; go_loud (refine (Same_any _ _ _ _ _ U14.out BV14.out).mono ?_; rintro r w11 ⟨rfl, hw11⟩; subst hw11; rw [hll]))
      | (go_at_call 20; go_loud (refine (known_any _).mono ?_; rintro r wk ⟨rfl, hw⟩; have EK := Lib.hid (gr_tr E14.out hw); clear hw)))
    go_ret
    exact ⟨rfl, gr_tr D.out EK.out⟩
  · have hq : (f == 0) = false := by simpa using e0
    go_wp2_with (go_at_call 20; go_loud (refine (known_any _).mono ?_; rintro r wk ⟨rfl, hw⟩; have EK := Lib.hid (gr_tr E13.out hw); clear hw))
    go_ret
    exact ⟨rfl, gr_tr D.out EK.out⟩
end Go.Proofs.YthnnopjakpjoeaaDoor
