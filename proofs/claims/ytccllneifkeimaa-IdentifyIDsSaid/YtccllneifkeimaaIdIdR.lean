/- DecodeIDs. Printed by genidd.py. -/
import Derived.Test.YtccllneifkeimaaIdIdD
namespace Go.Proofs.Ytccllneifkeimaa
open Go.RowKit Idn
set_option linter.unusedVariables false
set_option linter.unusedSimpArgs false
set_option maxRecDepth 20000 in
theorem wpList_index3 {ops : Array Oper} {rest : List Oper} {op : Oper} {a : Act} {w : World} {Q : Exit → Act → World → Prop} (hgd : op.guard = none) (x i : Operand) (ho : op.op = .index 110 x i) (s0 s1 s2 : Value)
    (hx : a.eval x = .agg #[s0, s1, s2]) (k : Int) (hi : a.eval i = .int .i64 k) (v : Value)
    (hv : (k = 0 ∧ v = s0) ∨ (k = 1 ∧ v = s1) ∨ (k = 2 ∧ v = s2))
    (h : wpList Try.prog ops Q rest (a.put op.dst v) w) : wpList Try.prog ops Q (op :: rest) a w := by
  refine wpList_plain hgd fun _ hK => ?_
  have hr : (Instr.index 110 (.agg #[s0, s1, s2]) (.int .i64 k)).run Try.prog w = .ok v w := by
    rcases hv with ⟨rfl, rfl⟩ | ⟨rfl, rfl⟩ | ⟨rfl, rfl⟩ <;> rfl
  unfold Oper.wp execOp
  simp only [ho, hx, hi, Sem.run_bind, Sem.run_pure, Result.andThen_ok, hr]
  exact hK _ _ h
theorem BytesV.dropN {w : World} {n c : Nat} {l : List (BitVec 8)} {g o : Nat} (h : BytesV w (.slice (some ⟨g, o, none⟩) n c) l) (p : Nat) (hp : p ≤ l.length) : BytesV w (.slice (some ⟨g, o + p, none⟩) (n - p) (c - p)) (l.drop p) := by
  obtain ⟨a', c', e, h0, h1, h2, h3⟩ := h
  injection e with e1 e2 e3
  subst e1 e3 e2
  have hl : (l.drop p).length = l.length - p := List.length_drop
  refine ⟨some ⟨g, o + p, none⟩, c - p, by rw [hl], (fun ha => by cases ha), by rw [hl]; omega, by omega, ?_⟩
  have := h3.drop p
  unfold by8 at this ⊢
  rw [List.map_drop]; exact this
theorem Ids.cells_one (x : Ids) : (Ids.cells x).toArray.all (·.oneCell') = true := by
  rw [Ids.cells_eq, List.all_toArray, List.all_eq_true]
  intro u hu
  simp only [List.mem_append, List.mem_singleton] at hu
  rcases hu with hu | hu | hu | hu
  · exact by8_one _ u hu
  · exact by8_one _ u hu
  · exact by8_one _ u hu
  · subst hu; rfl
set_option maxHeartbeats 6400000 in
set_option maxRecDepth 100000 in
theorem readI_at (X bbox : Nat) (bv : Value) (l : List (BitVec 8)) (w : World) (hb : BytesV w bv l) (hl : l.length = 4096) (hbb : w.heap[bbox]? = some (.cells #[bv] 28 (0, 0))) (hoff : Off (fun b => b = X) bv) (hne : ¬ bbox = X)
    (hx : w.heap[X]? = some (.cells (Ids.cells idsZ).toArray 44 (0, 0))) :
    Calls Try.prog 49 #[.pointer (some ⟨X, 0, none⟩), .pointer (some ⟨bbox, 0, none⟩)] w fun e w' => e = .returned (.tuple #[]) ∧ w'.heap[X]? = some (.cells (Ids.cells (rdI l)).toArray 44 (0, 0)) ∧ Chg (fun b => b = X) w w' := by
  obtain ⟨g, o, cv, rfl⟩ := hb.shapeAt (by omega)
  rw [hl] at hb hbb hoff
  have hcv : 4096 ≤ cv ∧ cv ≤ 9223372036854775807 := by obtain ⟨_, _, e, _, h1, h2, _⟩ := hb; injection e with _ _ e; rw [e, ← hl]; exact ⟨h1, h2⟩
  have BV := Lib.hid hb; have HX := Lib.hid hx; have OFF := Lib.hid hoff; have HL := Lib.hid hl; have HCV := Lib.hid hcv
  have cb : w.cell? ⟨bbox, 0, none⟩ = some (.slice (some ⟨g, o, none⟩) 4096 cv) := (cell_of_row _ _ 0 _ _ _ hbb).trans rfl
  clear hb hbb hl hoff hx hcv
  go_enter Try.func49, Try.ntmps49
  go_upto_region 1 with (fail)
  refine wp_region_planW nowhere [(true, 0), (true, 1), (true, 2), (true, 3), (true, 4), (true, 5), (true, 6), (true, 7), (true, 8), (true, 9), (true, 10), (true, 11), (true, 12), (true, 13)] (by kernel_rfl) (by kernel_rfl) (by intro c a d v w h; cases d <;> exact h) ?_
  intro W1 K1 C1
  repeat (refine wpS_firm rfl (fun K hK => ?_); simp only [Keep]; go_simp; refine hK _ ?_; clear hK K)
  unfold wpS
  clear cb
  have BV1 := Lib.hid (BV.out.below C1.out)
  have HX1 := Lib.hid (blk_below HX.out C1.out)
  go_wp2
  go_loopw [3, 20] (fun r i wr => ∃ k : Nat, k ≤ 3 ∧ i = .int .i64 k ∧ (∃ a, Hid (atI l k = a) ∧ r = .slice (some ⟨g, o + a, none⟩) (4096 - a) (cv - a)) ∧ wr.heap[X]? = some (.cells (Ids.cells (idsK l k)).toArray 44 (0, 0)) ∧ Chg (fun b => b = X) W1 wr) (fun _ i _ => 3 - (intOf i).toNat)
  case atStart => exact ⟨0, by omega, rfl, ⟨0, rfl, rfl⟩, HX1.out, Chg.refl _ _⟩
  case round =>
    obtain ⟨k, hk, rfl, ⟨a, ha, rfl⟩, hx, hc⟩ := hrel
    have XR := Lib.hid hx; have CR := Lib.hid hc
    have haL := atI_le l k
    rw [ha.out] at haL
    have hA60 : a ≤ 60 := by omega
    obtain ⟨N, hN⟩ : ∃ N, 4096 - a = N := ⟨_, rfl⟩
    obtain ⟨C, hC⟩ : ∃ C, cv - a = C := ⟨_, rfl⟩
    rw [hN, hC]
    have hN57 : 57 ≤ N := by omega
    have hNC : N ≤ C := by have := HCV.out; omega
    have hCm : C ≤ 9223372036854775807 := by have := HCV.out; omega
    have BR := Lib.hid (show BytesV wr (.slice (some ⟨g, o + a, none⟩) N C) (l.drop a) by have := (BV1.out.chg hc OFF.out).dropN a (by have := HL.out; omega); rwa [hN, hC] at this)
    have HN := Lib.hid hN; have HC := Lib.hid hC
    obtain ⟨y, hy⟩ : ∃ y, l[a]? = some y := ⟨_, List.getElem?_eq_getElem (by have := HL.out; omega)⟩
    have c0 : wr.cell? ⟨g, o + a, none⟩ = some (.int .u8 (uv y)) := by
      have := (BV1.out.chg hc OFF.out).cellAt hy
      exact this
    have HY := Lib.hid hy; have HA := ha
    obtain ⟨hit, hhit⟩ : ∃ b, hitI l k = b := ⟨_, rfl⟩
    have HH := Lib.hid hhit
    have hk4 : k = 0 ∨ k = 1 ∨ k = 2 ∨ k = 3 := by omega
    clear hx hc haL hN hC hy ha hhit hk
    rcases hk4 with rfl | rfl | rfl | rfl
    · have e : ((0 : Nat) : Int) = 0 := rfl
      rw [e]; clear e
      have hq : (y == 1#8) = hit := by
        have h := HH.out
        unfold hitI at h
        rw [HA.out, HY.out] at h
        rw [← h]
        exact (rfl : (y == 1#8) = (some y == some 1#8))
      have hat := atI_succ l 0
      rw [HH.out, HA.out] at hat
      cases hit
      · have HAT := Lib.hid hat
        have HSM := Lib.hid (idsK_same l 0 (by omega) HH.out)
        clear hat
        go_wp2_with (refine wpList_index3 rfl (.tmp 19) (.tmp 20) rfl _ _ _ rfl 0 rfl (.slice (some ⟨X, 0, none⟩) 8 8) (by simp) ?_)
        go_roundw
        case rel => exact ⟨1, by omega, rfl, ⟨a, Lib.hid (by have := HAT.out; simpa using this), by rw [← HN.out, ← HC.out]⟩, by rw [← HSM.out]; exact XR.out, CR.out⟩
        case measure => simp [intOf]
      · have HAT := Lib.hid hat
        obtain ⟨c, hc⟩ : ∃ c, prI l 0 = c := ⟨_, rfl⟩
        have hcl : c.length = 8 := by rw [← hc]; exact prI_len HL.out 0 (by omega)
        have htk : (l.drop (a + 4)).take (lenI 0) = c := by rw [← hc]; unfold prI; rw [HH.out, HA.out]; rfl
        have hnx := idsK_next l 0 (by omega) c hc
        have hr4 := run_fromO g (o + a) N C 4 (by omega) (by omega) (by omega) (by omega)
        have hr12 := run_fromO g (o + a) N C 12 (by omega) (by omega) (by omega) (by omega)
        have BR4 := Lib.hid (show BytesV wr (.slice (some ⟨g, o + a + 4, none⟩) (N - 4) (C - 4)) (l.drop (a + 4)) by have := BR.out.dropN 4 (by rw [List.length_drop, HL.out]; omega); rwa [List.drop_drop] at this)
        have HCL := Lib.hid hcl; have HTK := Lib.hid htk; have HNX := Lib.hid hnx
        clear hat hc hcl htk hnx
        go_wp2_with (first
          | (refine wpList_index3 rfl (.tmp 19) (.tmp 20) rfl _ _ _ rfl 0 rfl (.slice (some ⟨X, 0, none⟩) 8 8) (by simp) ?_)
          | (refine copy_part rfl (.tmp 31) (.tmp 33) rfl X 0 (by omega) (idsK l 0) (idsK_ok HL.out 0) 44 XR.out rfl (.slice (some ⟨g, o + a + 4, none⟩) (N - 4) (C - 4)) (l.drop (a + 4)) c rfl BR4.out (by rw [List.length_drop, HL.out]; simp only [lenI]; omega) HTK.out ?_; rw [HNX.out]))
        go_roundw
        case rel => exact ⟨1, by omega, rfl, ⟨a + 12, Lib.hid (by have := HAT.out; simpa [lenI] using this), by rw [Nat.add_assoc, ← HN.out, ← HC.out, Nat.sub_sub, Nat.sub_sub]⟩, setRow_heap _ _ _ _ _ _ XR.out, CR.out.trans (Chg.setRow (B := fun b => b = X) (g := X) _ rfl _)⟩
        case measure => simp [intOf]
    · have e : ((1 : Nat) : Int) = 1 := rfl
      rw [e]; clear e
      have hq : (y == 2#8) = hit := by
        have h := HH.out
        unfold hitI at h
        rw [HA.out, HY.out] at h
        rw [← h]
        exact (rfl : (y == 2#8) = (some y == some 2#8))
      have hat := atI_succ l 1
      rw [HH.out, HA.out] at hat
      cases hit
      · have HAT := Lib.hid hat
        have HSM := Lib.hid (idsK_same l 1 (by omega) HH.out)
        clear hat
        go_wp2_with (refine wpList_index3 rfl (.tmp 19) (.tmp 20) rfl _ _ _ rfl 1 rfl (.slice (some ⟨X, 8, none⟩) 16 16) (by simp) ?_)
        go_roundw
        case rel => exact ⟨2, by omega, rfl, ⟨a, Lib.hid (by have := HAT.out; simpa using this), by rw [← HN.out, ← HC.out]⟩, by rw [← HSM.out]; exact XR.out, CR.out⟩
        case measure => simp [intOf]
      · have HAT := Lib.hid hat
        obtain ⟨c, hc⟩ : ∃ c, prI l 1 = c := ⟨_, rfl⟩
        have hcl : c.length = 16 := by rw [← hc]; exact prI_len HL.out 1 (by omega)
        have htk : (l.drop (a + 4)).take (lenI 1) = c := by rw [← hc]; unfold prI; rw [HH.out, HA.out]; rfl
        have hnx := idsK_next l 1 (by omega) c hc
        have hr4 := run_fromO g (o + a) N C 4 (by omega) (by omega) (by omega) (by omega)
        have hr12 := run_fromO g (o + a) N C 20 (by omega) (by omega) (by omega) (by omega)
        have BR4 := Lib.hid (show BytesV wr (.slice (some ⟨g, o + a + 4, none⟩) (N - 4) (C - 4)) (l.drop (a + 4)) by have := BR.out.dropN 4 (by rw [List.length_drop, HL.out]; omega); rwa [List.drop_drop] at this)
        have HCL := Lib.hid hcl; have HTK := Lib.hid htk; have HNX := Lib.hid hnx
        clear hat hc hcl htk hnx
        go_wp2_with (first
          | (refine wpList_index3 rfl (.tmp 19) (.tmp 20) rfl _ _ _ rfl 1 rfl (.slice (some ⟨X, 8, none⟩) 16 16) (by simp) ?_)
          | (refine copy_part rfl (.tmp 31) (.tmp 33) rfl X 1 (by omega) (idsK l 1) (idsK_ok HL.out 1) 44 XR.out rfl (.slice (some ⟨g, o + a + 4, none⟩) (N - 4) (C - 4)) (l.drop (a + 4)) c rfl BR4.out (by rw [List.length_drop, HL.out]; simp only [lenI]; omega) HTK.out ?_; rw [HNX.out]))
        go_roundw
        case rel => exact ⟨2, by omega, rfl, ⟨a + 20, Lib.hid (by have := HAT.out; simpa [lenI] using this), by rw [Nat.add_assoc, ← HN.out, ← HC.out, Nat.sub_sub, Nat.sub_sub]⟩, setRow_heap _ _ _ _ _ _ XR.out, CR.out.trans (Chg.setRow (B := fun b => b = X) (g := X) _ rfl _)⟩
        case measure => simp [intOf]
    · have e : ((2 : Nat) : Int) = 2 := rfl
      rw [e]; clear e
      have hq : (y == 3#8) = hit := by
        have h := HH.out
        unfold hitI at h
        rw [HA.out, HY.out] at h
        rw [← h]
        exact (rfl : (y == 3#8) = (some y == some 3#8))
      have hat := atI_succ l 2
      rw [HH.out, HA.out] at hat
      cases hit
      · have HAT := Lib.hid hat
        have HSM := Lib.hid (idsK_same l 2 (by omega) HH.out)
        clear hat
        go_wp2_with (refine wpList_index3 rfl (.tmp 19) (.tmp 20) rfl _ _ _ rfl 2 rfl (.slice (some ⟨X, 24, none⟩) 16 16) (by simp) ?_)
        go_roundw
        case rel => exact ⟨3, by omega, rfl, ⟨a, Lib.hid (by have := HAT.out; simpa using this), by rw [← HN.out, ← HC.out]⟩, by rw [← HSM.out]; exact XR.out, CR.out⟩
        case measure => simp [intOf]
      · have HAT := Lib.hid hat
        obtain ⟨c, hc⟩ : ∃ c, prI l 2 = c := ⟨_, rfl⟩
        have hcl : c.length = 16 := by rw [← hc]; exact prI_len HL.out 2 (by omega)
        have htk : (l.drop (a + 4)).take (lenI 2) = c := by rw [← hc]; unfold prI; rw [HH.out, HA.out]; rfl
        have hnx := idsK_next l 2 (by omega) c hc
        have hr4 := run_fromO g (o + a) N C 4 (by omega) (by omega) (by omega) (by omega)
        have hr12 := run_fromO g (o + a) N C 20 (by omega) (by omega) (by omega) (by omega)
        have BR4 := Lib.hid (show BytesV wr (.slice (some ⟨g, o + a + 4, none⟩) (N - 4) (C - 4)) (l.drop (a + 4)) by have := BR.out.dropN 4 (by rw [List.length_drop, HL.out]; omega); rwa [List.drop_drop] at this)
        have HCL := Lib.hid hcl; have HTK := Lib.hid htk; have HNX := Lib.hid hnx
        clear hat hc hcl htk hnx
        go_wp2_with (first
          | (refine wpList_index3 rfl (.tmp 19) (.tmp 20) rfl _ _ _ rfl 2 rfl (.slice (some ⟨X, 24, none⟩) 16 16) (by simp) ?_)
          | (refine copy_part rfl (.tmp 31) (.tmp 33) rfl X 2 (by omega) (idsK l 2) (idsK_ok HL.out 2) 44 XR.out rfl (.slice (some ⟨g, o + a + 4, none⟩) (N - 4) (C - 4)) (l.drop (a + 4)) c rfl BR4.out (by rw [List.length_drop, HL.out]; simp only [lenI]; omega) HTK.out ?_; rw [HNX.out]))
        go_roundw
        case rel => exact ⟨3, by omega, rfl, ⟨a + 20, Lib.hid (by have := HAT.out; simpa [lenI] using this), by rw [Nat.add_assoc, ← HN.out, ← HC.out, Nat.sub_sub, Nat.sub_sub]⟩, setRow_heap _ _ _ _ _ _ XR.out, CR.out.trans (Chg.setRow (B := fun b => b = X) (g := X) _ rfl _)⟩
        case measure => simp [intOf]
    · have e : ((3 : Nat) : Int) = 3 := rfl
      rw [e]; clear e
      have hq : (y == 4#8) = hit := by
        have h := HH.out
        unfold hitI at h
        rw [HA.out, HY.out] at h
        rw [← h]
        exact (rfl : (y == 4#8) = (some y == some 4#8))
      have hq2 : (uv y == 4) = hit := by rw [← hq]; exact uv_beq y 4#8
      cases hit
      · go_wp2
        go_end0
        refine ⟨rfl, ?_, (Chg.of_below C1.out).trans CR.out⟩
        rw [← idsK_3, show setI l = 0#8 by unfold setI; rw [HH.out]; rfl]
        exact XR.out
      · obtain ⟨z, hz⟩ : ∃ z, l[a + 4]? = some z := ⟨_, List.getElem?_eq_getElem (by have := HL.out; omega)⟩
        have c4 : wr.cell? ⟨g, o + a + 4, none⟩ = some (.int .u8 (uv z)) := by
          have := BR.out.cellAt (i := 4) (by rw [List.getElem?_drop]; exact hz)
          exact this
        have HZ := Lib.hid hz
        clear hz
        have cX := (cell_of_row _ _ 40 _ _ _ XR.out).trans (show (Ids.cells (idsK l 3)).toArray[40]? = some (.int .u8 0) by
          have hok := idsK_ok HL.out 3
          rw [List.getElem?_toArray, Ids.cells_eq, ← List.append_assoc, ← List.append_assoc, List.getElem?_append_right (by simp [hok.1, hok.2.1, hok.2.2])]
          simp [hok.1, hok.2.1, hok.2.2]; rfl)
        have fX := frozen_of_row _ _ 40 _ _ XR.out
        go_wp2
        go_end0
        refine ⟨rfl, ?_, (Chg.of_below C1.out).trans (CR.out.trans (Chg.setCell (B := fun b => b = X) (p := ⟨X, 40, none⟩) _ rfl _))⟩
        have hs : setI l = z + 1#8 := by unfold setI; rw [HH.out, HA.out, List.getD_eq_getElem?_getD, HZ.out]; rfl
        rw [← idsK_3, hs, ← cells_set _ (idsK_ok HL.out 3)]
        exact heap_setCell_same _ _ _ _ _ _ XR.out
namespace Idn
def okI (x : Ids) : Bool := decide (x.e.length = 8 ∧ x.g.length = 16 ∧ x.u.length = 16)
theorem okI_ok {x : Ids} (h : okI x = true) : Ids.Ok x := (of_decide_eq_true h : x.e.length = 8 ∧ x.g.length = 16 ∧ x.u.length = 16)
theorem okI_rd {l : List (BitVec 8)} (hl : l.length = 4096) : okI (rdI l) = true := by unfold okI; exact decide_eq_true (rdI_ok hl)
theorem cells_sz {x : Ids} (h : Ids.Ok x) : (Ids.cells x).toArray.size = 41 := by rw [List.size_toArray, Ids.cells_eq]; simp [h.1, h.2.1, h.2.2]
theorem decI_ok {l : List (BitVec 8)} {y : Ids} {e : Int} (h : decV rdI okI idsB idsZ l = (y, e)) : Ids.Ok y := by
  unfold decV at h
  split at h
  · cases h; exact ⟨rfl, rfl, rfl⟩
  · split at h
    · cases h; exact ⟨rfl, rfl, rfl⟩
    · split at h
      · cases h; exact rdI_ok (by omega)
      · cases h; exact ⟨rfl, rfl, rfl⟩
end Idn
set_option maxRecDepth 100000 in
theorem EncI2_at (x : Ids) (w : World) (h : okI x = true) : Calls Try.prog 50 #[.agg (Ids.cells x).toArray] w fun e w' => ∃ u, e = .returned (.tuple #[u, .int .i64 0]) ∧ BytesV w' u (idsB x) ∧ Below w.heap.size w w' := by
  have hok := okI_ok h
  have hs := cells_sz hok
  obtain ⟨cs, hcs⟩ : ∃ cs, (Ids.cells x).toArray = cs := ⟨_, rfl⟩
  have HCS := Lib.hid hcs; have HOK := Lib.hid hok; have HS := Lib.hid (show cs.size = 41 by rw [← hcs]; exact hs)
  rw [hcs]
  clear hcs hok hs h
  go_enter Try.func50, Try.ntmps50
  go_wp2_with (first
    | (refine wpList_load_row rfl 44 (.tmp 1) rfl w.heap.size rfl 44 cs (0, 0) _ (heap_alloc_new w _) Try.underlying44 rfl (by rw [HS.out]; kernel_rfl) ?_)
    | (go_at_call 18; go_loud (rw [← HCS.out]; refine (EncI_at x _ HOK.out).mono ?_; rintro r w3 ⟨u, rfl, hu, hw⟩; have U := Lib.hid hu; have D := Lib.hid (gr_tr (gr_alloc w _) hw); clear hu hw)))
  go_ret2
  exact ⟨_, rfl, U.out, by first | exact D.out | (rw [← HCS.out]; exact D.out)⟩
set_option maxRecDepth 100000 in
theorem Ids_lit : (Ids.cells idsZ).toArray = #[.int .u8 0, .int .u8 0, .int .u8 0, .int .u8 0, .int .u8 0, .int .u8 0, .int .u8 0, .int .u8 0, .int .u8 0, .int .u8 0, .int .u8 0, .int .u8 0, .int .u8 0, .int .u8 0, .int .u8 0, .int .u8 0, .int .u8 0, .int .u8 0, .int .u8 0, .int .u8 0, .int .u8 0, .int .u8 0, .int .u8 0, .int .u8 0, .int .u8 0, .int .u8 0, .int .u8 0, .int .u8 0, .int .u8 0, .int .u8 0, .int .u8 0, .int .u8 0, .int .u8 0, .int .u8 0, .int .u8 0, .int .u8 0, .int .u8 0, .int .u8 0, .int .u8 0, .int .u8 0, .int .u8 0] := by rfl
set_option maxHeartbeats 6400000 in
set_option maxRecDepth 100000 in
theorem decoded_Ids (l : List (BitVec 8)) (bv : Value) (bbox : Nat) (w : World) (y : Ids) (e : Int) (hb : BytesV w bv l) (hl : l.length ≤ 140737488355328) (hbb : w.heap[bbox]? = some (.cells #[bv] 28 (0, 0))) (hd : decV rdI okI idsB idsZ l = (y, e)) :
    Calls Try.prog 48 #[bv, .func (.func 49) #[] #[.pointer (some ⟨bbox, 0, none⟩)], .func (.func 50) #[] #[]] w fun r w' => r = .returned (.tuple #[.agg (Ids.cells y).toArray, .int .i64 e]) ∧ Below w.heap.size w w' := by
  obtain ⟨av, cv, rfl, hv0, hv1, hv2, hv3⟩ := id hb
  have hm : l.length ≤ 9223372036854775807 := by omega
  have BV := Lib.hid hb; have BB := Lib.hid hbb
  have SidsZ := Lib.hid (show (Ids.cells idsZ).toArray.size = 41 by rw [Ids_lit]; rfl)
  obtain ⟨V, hV⟩ : ∃ V, V = w.alloc (.cells (Ids.cells idsZ).toArray 44) := ⟨_, rfl⟩
  have DV := Lib.hid (show Below w.heap.size w V by rw [hV]; exact gr_alloc w _)
  have XV := Lib.hid (show V.heap[w.heap.size]? = some (.cells (Ids.cells idsZ).toArray 44 (0, 0)) by rw [hV]; exact heap_alloc_new w _)
  have VS := Lib.hid (show w.heap.size < V.heap.size by rw [hV]; simp)
  rw [Ids_lit] at hV
  have HV := Lib.hid hV
  clear hb hbb hv0 hv1 hv2 hv3 hV
  unfold decV at hd
  by_cases p1 : l.length < 4096
  · rw [if_pos p1] at hd
    cases hd
    have d1 : decide ((l.length : Int) < 4096) = true := decide_eq_true (by omega)
    clear p1
    go_enter Try.func48, Try.ntmps48
    go_upto_region 1 with (fail)
    rw [← HV.out]
    go_wp2_with (first
      | (refine wpList_load_row rfl 44 (.tmp 6) rfl w.heap.size rfl 44 _ (0, 0) _ XV.out Try.underlying44 rfl (by rw [SidsZ.out]; kernel_rfl) ?_)
      | (refine wpList_store_row rfl 44 (.tmp 6) (.tmp 15) rfl w.heap.size (Ids.cells idsZ).toArray rfl rfl 44 _ XV.out (by rw [SidsZ.out]; kernel_rfl) rfl (Ids.cells_one _) ?_))
    exact bodyPost_ret (results_row_tmp rfl _ _ w.heap.size 44 (Ids.cells idsZ).toArray (0, 0) _ rfl (setRow_heap _ _ _ _ _ _ XV.out) Try.underlying44 rfl (by rw [SidsZ.out]; kernel_rfl)) rfl ⟨rfl, below_setRow DV.out (Nat.le_refl _) _⟩
  · rw [if_neg p1] at hd
    by_cases p2 : 4096 < l.length
    · rw [if_pos p2] at hd
      cases hd
      have d1 : decide ((l.length : Int) < 4096) = false := decide_eq_false (by omega)
      have d2 : decide (4096 < (l.length : Int)) = true := decide_eq_true (by omega)
      clear p1 p2
      go_enter Try.func48, Try.ntmps48
      go_upto_region 1 with (fail)
      rw [← HV.out]
      go_wp2_with (first
        | (refine wpList_load_row rfl 44 (.tmp 6) rfl w.heap.size rfl 44 _ (0, 0) _ XV.out Try.underlying44 rfl (by rw [SidsZ.out]; kernel_rfl) ?_)
        | (refine wpList_store_row rfl 44 (.tmp 6) (.tmp 20) rfl w.heap.size (Ids.cells idsZ).toArray rfl rfl 44 _ XV.out (by rw [SidsZ.out]; kernel_rfl) rfl (Ids.cells_one _) ?_))
      exact bodyPost_ret (results_row_tmp rfl _ _ w.heap.size 44 (Ids.cells idsZ).toArray (0, 0) _ rfl (setRow_heap _ _ _ _ _ _ XV.out) Try.underlying44 rfl (by rw [SidsZ.out]; kernel_rfl)) rfl ⟨rfl, below_setRow DV.out (Nat.le_refl _) _⟩
    · rw [if_neg p2] at hd
      have d1 : decide ((l.length : Int) < 4096) = false := decide_eq_false (by omega)
      have d2 : decide (4096 < (l.length : Int)) = false := decide_eq_false (by omega)
      have hl4 : l.length = 4096 := by omega
      have HD := Lib.hid hd; have HL4 := Lib.hid hl4
      clear p1 p2 hd hl4
      obtain ⟨x, hx⟩ : ∃ x, rdI l = x := ⟨_, rfl⟩
      have HX := Lib.hid hx
      have SZX := Lib.hid (show (Ids.cells x).toArray.size = 41 by (rw [← HX.out]; exact cells_sz (rdI_ok HL4.out)))
      clear hx
      obtain ⟨bo, hbo⟩ : ∃ b, okI x = b := ⟨_, rfl⟩
      have HO := Lib.hid hbo; clear hbo
      obtain ⟨W, hW⟩ : ∃ W, W = V.alloc (.cells (Ids.cells idsZ).toArray 44) := ⟨_, rfl⟩
      have D := Lib.hid (show Below w.heap.size w W by rw [hW]; exact gr_tr DV.out (gr_alloc V _))
      have XA := Lib.hid (show W.heap[w.heap.size]? = some (.cells (Ids.cells idsZ).toArray 44 (0, 0)) by rw [hW]; exact blk_below XV.out (gr_alloc V _))
      have XB := Lib.hid (show W.heap[V.heap.size]? = some (.cells (Ids.cells idsZ).toArray 44 (0, 0)) by rw [hW]; exact heap_alloc_new V _)
      rw [Ids_lit] at hW
      have HW := Lib.hid hW; clear hW
      have HBW := Lib.hid (Array.getElem?_eq_some_iff.1 BB.out).1
      have hgl : ∀ g o n c, Value.slice av l.length cv = .slice (some ⟨g, o, none⟩) n c → g < w.heap.size := slice_lt BV.out (by rw [HL4.out]; decide)
      have GL := Lib.hid hgl; clear hgl
      go_enter Try.func48, Try.ntmps48
      go_upto_region 1 with (fail)
      rw [← HV.out]
      go_upto_region 6 with (fail)
      rw [← HW.out]
      go_upto_region 7 with (go_at_call 49; go_loud (refine (readI_at V.heap.size bbox _ l _ (BV.out.below D.out) HL4.out (blk_below BB.out D.out) (fun g o n c e h => by have := GL.out g o n c e; have := VS.out; omega) (fun h => by have := HBW.out; have := VS.out; omega) XB.out).mono ?_; rw [HX.out]; rintro r w3 ⟨rfl, hx3, hc⟩; have X3 := Lib.hid hx3; have C3 := Lib.hid hc; have D3 := Lib.hid (hc.fresh D.out (fun k h => by have := VS.out; omega)); have A3 := Lib.hid (hc.blk XA.out (by have := VS.out; omega)); have BV3 := Lib.hid (BV.out.below D3.out); clear hx3 hc))
      cases bo
      · exact absurd HO.out (by rw [← HX.out, okI_rd HL4.out]; simp)
      · have EN := Lib.hid (fun W => EncI2_at x W HO.out)
        obtain ⟨bq, hbq⟩ : ∃ b, (idsB x == l) = b := ⟨_, rfl⟩
        have HQ := Lib.hid hbq; clear hbq
        cases bq
        · skip
          go_wp2_with (first
            | (refine wpList_load_row rfl 44 (.tmp 8) rfl V.heap.size rfl 44 _ (0, 0) _ X3.out Try.underlying44 rfl (by rw [SZX.out]; kernel_rfl) ?_)
            | (refine wpList_load_row rfl 44 (.tmp 6) rfl w.heap.size rfl 44 _ (0, 0) _ A4.out Try.underlying44 rfl (by rw [SidsZ.out]; kernel_rfl) ?_)
            | (refine wpList_store_row rfl 44 (.tmp 6) (.tmp 37) rfl w.heap.size (Ids.cells idsZ).toArray rfl rfl 44 _ A4.out (by rw [SidsZ.out]; kernel_rfl) rfl (Ids.cells_one _) ?_)
            | (go_at_call 50; go_loud (refine (EN.out _).mono ?_; rintro r w4 ⟨u, rfl, hu, hw⟩; have U := Lib.hid hu; have D4 := Lib.hid (gr_tr D3.out hw); have A4 := Lib.hid (blk_below A3.out hw); have X4 := Lib.hid (blk_below X3.out hw); have BV4 := Lib.hid (BV3.out.below hw); clear hu hw))
            | (go_at_call 79; go_loud (refine (Equal_at _ _ _ _ _ _ U.out BV4.out HQ.out).mono ?_; rintro r w5 ⟨rfl, rfl⟩)))
          obtain ⟨e1, e2⟩ : y = idsZ ∧ e = 6 := by
            have h := HD.out
            rw [HX.out, HO.out, HQ.out] at h
            simp at h
            exact ⟨h.1.symm, h.2.symm⟩
          rw [e1, e2]
          exact bodyPost_ret (results_row_tmp rfl _ _ w.heap.size 44 (Ids.cells idsZ).toArray (0, 0) _ rfl (setRow_heap _ _ _ _ _ _ A4.out) Try.underlying44 rfl (by rw [SidsZ.out]; kernel_rfl)) rfl ⟨rfl, below_setRow D4.out (Nat.le_refl _) _⟩
        · skip
          go_wp2_with (first
            | (refine wpList_load_row rfl 44 (.tmp 8) rfl V.heap.size rfl 44 _ (0, 0) _ X3.out Try.underlying44 rfl (by rw [SZX.out]; kernel_rfl) ?_)
            | (refine wpList_load_row rfl 44 (.tmp 8) rfl V.heap.size rfl 44 _ (0, 0) _ X4.out Try.underlying44 rfl (by rw [SZX.out]; kernel_rfl) ?_)
            | (refine wpList_store_row rfl 44 (.tmp 6) (.tmp 38) rfl w.heap.size (Ids.cells x).toArray rfl rfl 44 _ A4.out (by rw [SZX.out]; kernel_rfl) (by rw [SZX.out, SidsZ.out]) (Ids.cells_one _) ?_)
            | (go_at_call 50; go_loud (refine (EN.out _).mono ?_; rintro r w4 ⟨u, rfl, hu, hw⟩; have U := Lib.hid hu; have D4 := Lib.hid (gr_tr D3.out hw); have A4 := Lib.hid (blk_below A3.out hw); have X4 := Lib.hid (blk_below X3.out hw); have BV4 := Lib.hid (BV3.out.below hw); clear hu hw))
            | (go_at_call 79; go_loud (refine (Equal_at _ _ _ _ _ _ U.out BV4.out HQ.out).mono ?_; rintro r w5 ⟨rfl, rfl⟩)))
          obtain ⟨e1, e2⟩ : y = x ∧ e = 0 := by
            have h := HD.out
            rw [HX.out, HO.out, HQ.out] at h
            simp at h
            exact ⟨h.1.symm, h.2.symm⟩
          rw [e1, e2]
          exact bodyPost_ret (results_row_tmp rfl _ _ w.heap.size 44 (Ids.cells x).toArray (0, 0) _ rfl (setRow_heap _ _ _ _ _ _ A4.out) Try.underlying44 rfl (by rw [SZX.out]; kernel_rfl)) rfl ⟨rfl, below_setRow D4.out (Nat.le_refl _) _⟩
set_option maxHeartbeats 6400000 in
set_option maxRecDepth 100000 in
theorem Decode_Ids (l : List (BitVec 8)) (bv : Value) (w : World) (y : Ids) (e : Int) (hsz : (Ids.cells y).toArray.size = 41) (hb : BytesV w bv l) (hl : l.length ≤ 140737488355328) (hd : decV rdI okI idsB idsZ l = (y, e)) :
    Calls Try.prog 20 #[bv] w fun r w' => r = .returned (.tuple #[.agg (Ids.cells y).toArray, .int .i64 e]) ∧ Below w.heap.size w w' := by
  have hmf : ∀ (fn : Fn) (first cap : Array Value) (w : World), (Instr.makeFunc fn first cap).run Try.prog w = .ok (.func fn first cap) w := fun _ _ _ _ => rfl
  obtain ⟨av, cv, rfl, hv0, hv1, hv2, hv3⟩ := id hb
  have SidsZ := Lib.hid (show (Ids.cells idsZ).toArray.size = 41 by rw [Ids_lit]; rfl)
  have HSZ := Lib.hid hsz
  clear hsz
  obtain ⟨bv, hbv⟩ : ∃ v, v = Value.slice av l.length cv := ⟨_, rfl⟩
  have BV := Lib.hid (show BytesV w bv l by rw [hbv]; exact hb); have HD := Lib.hid hd
  rw [← hbv]
  clear hv0 hv1 hv2 hv3
  obtain ⟨W, hW⟩ : ∃ W, W = (w.alloc (.cells #[bv] 28)).alloc (.cells (Ids.cells idsZ).toArray 44) := ⟨_, rfl⟩
  have D := Lib.hid (show Below w.heap.size w W by rw [hW]; exact gr_tr (gr_alloc w _) (gr_alloc _ _))
  have BB := Lib.hid (show W.heap[w.heap.size]? = some (.cells #[bv] 28 (0, 0)) by rw [hW]; exact blk_below (heap_alloc_new w _) (gr_alloc _ _))
  have XB := Lib.hid (show W.heap[w.heap.size + 1]? = some (.cells (Ids.cells idsZ).toArray 44 (0, 0)) by rw [hW]; have := heap_alloc_new (w.alloc (.cells #[bv] 28)) (.cells (Ids.cells idsZ).toArray 44); rwa [World.size_alloc] at this)
  rw [Ids_lit] at hW
  have HW := Lib.hid hW
  have cb : W.cell? ⟨w.heap.size, 0, none⟩ = some bv := (cell_of_row _ _ 0 _ _ _ BB.out).trans rfl
  have HBV := Lib.hid hbv
  clear hW hb hd
  rw [HBV.out] at HW BV BB cb ⊢
  clear hbv
  go_enter Try.func20, Try.ntmps20
  go_upto_region 1 with (fail)
  rw [← HW.out]
  go_wp2_with (first
    | (go_at_call 48; go_loud (refine (decoded_Ids l _ w.heap.size _ y e (BV.out.below D.out) hl BB.out HD.out).mono ?_; rintro r w3 ⟨rfl, hw⟩; have D3 := Lib.hid (gr_tr D.out hw); have X3 := Lib.hid (blk_below XB.out hw); clear hw))
    | (refine wpList_store_row rfl 44 (.tmp 2) (.tmp 7) rfl (w.heap.size + 1) (Ids.cells y).toArray rfl rfl 44 _ X3.out (by rw [HSZ.out]; kernel_rfl) (by rw [HSZ.out, SidsZ.out]) (Ids.cells_one _) ?_))
  exact bodyPost_ret (results_row_tmp rfl _ _ (w.heap.size + 1) 44 (Ids.cells y).toArray (0, 0) _ rfl (setRow_heap _ _ _ _ _ _ X3.out) Try.underlying44 rfl (by rw [HSZ.out]; kernel_rfl)) rfl ⟨rfl, below_setRow D3.out (by omega) _⟩
end Go.Proofs.Ytccllneifkeimaa
