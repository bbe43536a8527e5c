/- Discovery: Decode, its early ways out. Printed by gendscs.py. -/
import Derived.Test.YtjcgdenkmmgmfaaGreatDoorDscQ
import Derived.Test.YtjcgdenkmmgmfaaGreatDoorDscN
namespace Go.Proofs.YtjcgdenkmmgmfaaGreatDoor
open Go.RowKit Go.Shelf Dsc
set_option linter.unusedVariables false
set_option linter.unusedSimpArgs false
attribute [local go_sem] Oper.semAt_some
theorem results_row_cell {P : Program} {fn : Func} {p q : Tmp} {ty tq : TypeId} (h : fn.results = #[.cell p ty, .cell q tq]) (tmps : Array Value) (w : World) (g : Nat) (t : TypeId) (cs : Array Value) (fr : Nat × Nat) (d : TypeDesc) (g2 : Nat) (v : Value) (t2 : TypeId) (fr2 : Nat × Nat) (d2 : TypeDesc)
    (hp : tmps.getD p undef = .pointer (some ⟨g, 0, none⟩)) (hg : w.heap[g]? = some (.cells cs t fr))
    (hu : P.underlying ty = some d) (hd : (match d with | .struct _ | .array _ _ => true | _ => false) = true) (hi : (P.info? ty).map (·.size) = some cs.size)
    (hq : tmps.getD q undef = .pointer (some ⟨g2, 0, none⟩)) (hg2 : w.heap[g2]? = some (.cells #[v] t2 fr2)) (hu2 : P.underlying tq = some d2) (hd2 : (match d2 with | .struct _ | .array _ _ => true | _ => false) = false) :
    (results fn tmps).run P w = .ok (.tuple #[.agg cs, v]) w := by
  have hp' : tmps[p]?.getD undef = .pointer (some ⟨g, 0, none⟩) := by simpa using hp
  have hq' : tmps[q]?.getD undef = .pointer (some ⟨g2, 0, none⟩) := by simpa using hq
  have hc : w.cell? ⟨g2, 0, none⟩ = some v := (cell_of_row _ _ 0 _ _ _ hg2).trans rfl
  have hl : (loadVar tq ⟨g2, 0, none⟩).run P w = .ok v w := by
    unfold loadVar
    rw [Sem.run_bind, run_isAgg_plain hu2 hd2]
    simp [Result.andThen, hc]
  simp [results, h, hp', hq', asAddr, run_loadVar_row w g t ty cs fr d hg hu hd hi, hl]
namespace Dsc
/-- The page may go to the loop over its records. -/
def past (b : List (BitVec 8)) : Bool := decide (1024 ≤ b.length) && (allZ (cut b 16 1008) && (decide ((num b 8 8).toNat ≤ 256) && decide (b.length = 1024 * (1 + (num b 8 8).toNat))))
end Dsc
set_option maxHeartbeats 6400000 in
set_option maxRecDepth 20000 in
theorem Decode_pre (v : Value) (b : List (BitVec 8)) (E : Int) (w : World) (hv : BytesV w v b) (hE : decE b = E) (hp : past b = false) :
    Calls Tryz.prog 18 #[v] w fun e w' => e = .returned (.tuple #[.agg #[.int .u64 0, .slice none 0 0], .int .i64 E]) ∧ Below w.heap.size w w' := by
  have hm63 : b.length ≤ 9223372036854775807 := by obtain ⟨a, c, rfl, _, h1, h2, _⟩ := hv; omega
  obtain ⟨W, hW⟩ : ∃ W, W = (w.alloc (.cells #[.int .u64 0, .slice none 0 0] 60)).alloc (.cells #[.int .i64 0] 42) := ⟨_, rfl⟩
  have D := Lib.hid (show Below w.heap.size w W by rw [hW]; exact gr_tr (gr_alloc w _) (gr_alloc _ _))
  have X := Lib.hid (show W.heap[w.heap.size]? = some (.cells #[.int .u64 0, .slice none 0 0] 60 (0, 0)) by rw [hW]; exact blk_below (heap_alloc_new w _) (gr_alloc _ _))
  have Y := Lib.hid (show W.heap[w.heap.size + 1]? = some (.cells #[.int .i64 0] 42 (0, 0)) by rw [hW]; have h := heap_alloc_new (w.alloc (.cells #[.int .u64 0, .slice none 0 0] 60)) (.cells #[.int .i64 0] 42); simpa using h)
  have HW := Lib.hid hW
  clear hW
  have S := Lib.hid hv
  obtain ⟨a, c, hva, -⟩ := id hv
  obtain ⟨L, hL⟩ : ∃ L, b.length = L := ⟨_, rfl⟩
  unfold decE at hE
  unfold past at hp
  rw [hL] at hva hE hp hm63
  subst hva
  by_cases h1 : L < 1024
  · rw [if_pos h1] at hE
    subst hE
    clear hp hL hv S
    have hd : decide ((L : Int) < 1024) = true := decide_eq_true (by omega)
    go_enter Tryz.func18, Tryz.ntmps18
    go_upto_region 1 with fail
    rw [← HW.out]
    go_wp2_with (refine wpList_store_row rfl 60 (.tmp 2) _ rfl w.heap.size #[.int .u64 0, .slice none 0 0] rfl rfl 60 _ X.out (by kernel_rfl) rfl (by kernel_rfl) ?_; obtain ⟨W3, hW3⟩ : ∃ Y, Y = W.setRow w.heap.size #[.int .u64 0, .slice none 0 0] := ⟨_, rfl⟩; rw [← hW3]; have X3 := Lib.hid (show W3.heap[w.heap.size]? = some (.cells #[.int .u64 0, .slice none 0 0] 60 (0, 0)) by rw [hW3]; exact setRow_heap _ _ _ _ _ _ X.out); have Y3 := Lib.hid (show W3.heap[w.heap.size + 1]? = some (.cells #[.int .i64 0] 42 (0, 0)) by rw [hW3, setRow_other _ _ _ _ (by omega)]; exact Y.out); have D3 := Lib.hid (show Below w.heap.size w W3 by rw [hW3]; exact below_setRow D.out (Nat.le_refl _) _); clear hW3; have c3 : W3.cell? ⟨w.heap.size + 1, 0, none⟩ = some (.int .i64 0) := (cell_of_row _ _ 0 _ _ _ Y3.out).trans rfl; have z3 := frozen_of_row _ _ 0 _ _ Y3.out)
    exact bodyPost_ret (results_row_cell rfl _ _ w.heap.size 60 #[.int .u64 0, .slice none 0 0] (0, 0) _ (w.heap.size + 1) _ 42 (0, 0) _ rfl (by rw [heap_setCell_other _ _ _ _ (show w.heap.size ≠ w.heap.size + 1 by omega)]; exact X3.out) Tryz.underlying60 rfl (by kernel_rfl) rfl (heap_setCell_same _ _ _ _ _ _ Y3.out) Tryz.underlying42 rfl) rfl ⟨rfl, D3.out.setCell (p := ⟨w.heap.size + 1, 0, none⟩) (by simp) _⟩
  · rw [if_neg h1] at hE
    rw [decide_eq_true (show 1024 ≤ L by omega), Bool.true_and] at hp
    have hd : decide ((L : Int) < 1024) = false := decide_eq_false (by omega)
    obtain ⟨u8, s8, r8, -⟩ := BytesV.cut (P := Tryz.prog) (T := 45) (E := 5) Tryz.underlying45 (by kernel_rfl) hv 8 16 (by decide) (by omega)
    obtain ⟨u16, s16, r16, -⟩ := BytesV.cut (P := Tryz.prog) (T := 45) (E := 5) Tryz.underlying45 (by kernel_rfl) hv 16 1024 (by decide) (by omega)
    rw [cut_take b 8 8] at s8; rw [cut_take b 16 1008] at s16
    obtain ⟨z, hz⟩ : ∃ z, allZ (cut b 16 1008) = z := ⟨_, rfl⟩
    obtain ⟨m, hm⟩ : ∃ m, num b 8 8 = m := ⟨_, rfl⟩
    have VAL := Lib.hid (fun w' (hb : Below w.heap.size w w') => value_at u8 (cut b 8 8) m w' (s8.below hb) (Nat.le_of_eq (cut_len (by omega))) hm)
    have CON := Lib.hid (fun w' (hb : Below w.heap.size w w') => conNz_at u16 (cut b 16 1008) z w' (s16.below hb) hz)
    rw [hz, hm] at hE hp
    replace r8 : ∀ w', (Instr.slice 45 (.slice a L c) (some (.int .i64 8)) (some (.int .i64 16)) none).run Tryz.prog w' = .ok u8 w' := by exact r8
    replace r16 : ∀ w', (Instr.slice 45 (.slice a L c) (some (.int .i64 16)) (some (.int .i64 1024)) none).run Tryz.prog w' = .ok u16 w' := by exact r16
    have hum : uv m = ((m.toNat : Nat) : Int) := rfl
    obtain ⟨k, hk⟩ : ∃ k, m.toNat = k := ⟨_, rfl⟩
    rw [hk] at hE hp
    rw [hum, hk] at VAL
    clear s8 s16 hv hm hum hk hz hL S h1
    go_enter Tryz.func18, Tryz.ntmps18
    go_upto_region 1 with fail
    rw [← HW.out]
    clear HW
    cases z
    · rw [if_pos rfl] at hE
      subst hE
      clear hp
      go_wp2_with (first | (refine wpList_store_row rfl 60 (.tmp 2) _ rfl w.heap.size #[.int .u64 0, .slice none 0 0] rfl rfl 60 _ X.out (by kernel_rfl) rfl (by kernel_rfl) ?_; obtain ⟨W3, hW3⟩ : ∃ Y, Y = W.setRow w.heap.size #[.int .u64 0, .slice none 0 0] := ⟨_, rfl⟩; rw [← hW3]; have X3 := Lib.hid (show W3.heap[w.heap.size]? = some (.cells #[.int .u64 0, .slice none 0 0] 60 (0, 0)) by rw [hW3]; exact setRow_heap _ _ _ _ _ _ X.out); have Y3 := Lib.hid (show W3.heap[w.heap.size + 1]? = some (.cells #[.int .i64 0] 42 (0, 0)) by rw [hW3, setRow_other _ _ _ _ (by omega)]; exact Y.out); have D3 := Lib.hid (show Below w.heap.size w W3 by rw [hW3]; exact below_setRow D.out (Nat.le_refl _) _); clear hW3; have c3 : W3.cell? ⟨w.heap.size + 1, 0, none⟩ = some (.int .i64 0) := (cell_of_row _ _ 0 _ _ _ Y3.out).trans rfl; have z3 := frozen_of_row _ _ 0 _ _ Y3.out) | (go_at_call 40; go_loud (refine (VAL.out _ D.out).mono ?_; rintro e w2 ⟨rfl, rfl⟩)) | (go_at_call 41; go_loud (refine (CON.out _ D.out).mono ?_; rintro e w2 ⟨rfl, hw⟩; replace X := Lib.hid (blk_below X.out hw); replace Y := Lib.hid (blk_below Y.out hw); replace D := Lib.hid (gr_tr D.out hw); clear hw; obtain ⟨W, hW⟩ : ∃ Y, Y = w2 := ⟨_, rfl⟩; subst hW)))
      exact bodyPost_ret (results_row_cell rfl _ _ w.heap.size 60 #[.int .u64 0, .slice none 0 0] (0, 0) _ (w.heap.size + 1) _ 42 (0, 0) _ rfl (by rw [heap_setCell_other _ _ _ _ (show w.heap.size ≠ w.heap.size + 1 by omega)]; exact X3.out) Tryz.underlying60 rfl (by kernel_rfl) rfl (heap_setCell_same _ _ _ _ _ _ Y3.out) Tryz.underlying42 rfl) rfl ⟨rfl, D3.out.setCell (p := ⟨w.heap.size + 1, 0, none⟩) (by simp) _⟩
    · rw [if_neg (by simp)] at hE
      rw [Bool.true_and] at hp
      by_cases h3 : 256 < k
      · rw [if_pos h3] at hE
        subst hE
        clear hp
        have hd3 : decide ((k : Int) > 256) = true := decide_eq_true (by omega)
        go_wp2_with (first | (refine wpList_store_row rfl 60 (.tmp 2) _ rfl w.heap.size #[.int .u64 0, .slice none 0 0] rfl rfl 60 _ X.out (by kernel_rfl) rfl (by kernel_rfl) ?_; obtain ⟨W3, hW3⟩ : ∃ Y, Y = W.setRow w.heap.size #[.int .u64 0, .slice none 0 0] := ⟨_, rfl⟩; rw [← hW3]; have X3 := Lib.hid (show W3.heap[w.heap.size]? = some (.cells #[.int .u64 0, .slice none 0 0] 60 (0, 0)) by rw [hW3]; exact setRow_heap _ _ _ _ _ _ X.out); have Y3 := Lib.hid (show W3.heap[w.heap.size + 1]? = some (.cells #[.int .i64 0] 42 (0, 0)) by rw [hW3, setRow_other _ _ _ _ (by omega)]; exact Y.out); have D3 := Lib.hid (show Below w.heap.size w W3 by rw [hW3]; exact below_setRow D.out (Nat.le_refl _) _); clear hW3; have c3 : W3.cell? ⟨w.heap.size + 1, 0, none⟩ = some (.int .i64 0) := (cell_of_row _ _ 0 _ _ _ Y3.out).trans rfl; have z3 := frozen_of_row _ _ 0 _ _ Y3.out) | (go_at_call 40; go_loud (refine (VAL.out _ D.out).mono ?_; rintro e w2 ⟨rfl, rfl⟩)) | (go_at_call 41; go_loud (refine (CON.out _ D.out).mono ?_; rintro e w2 ⟨rfl, hw⟩; replace X := Lib.hid (blk_below X.out hw); replace Y := Lib.hid (blk_below Y.out hw); replace D := Lib.hid (gr_tr D.out hw); clear hw; obtain ⟨W, hW⟩ : ∃ Y, Y = w2 := ⟨_, rfl⟩; subst hW)))
        exact bodyPost_ret (results_row_cell rfl _ _ w.heap.size 60 #[.int .u64 0, .slice none 0 0] (0, 0) _ (w.heap.size + 1) _ 42 (0, 0) _ rfl (by rw [heap_setCell_other _ _ _ _ (show w.heap.size ≠ w.heap.size + 1 by omega)]; exact X3.out) Tryz.underlying60 rfl (by kernel_rfl) rfl (heap_setCell_same _ _ _ _ _ _ Y3.out) Tryz.underlying42 rfl) rfl ⟨rfl, D3.out.setCell (p := ⟨w.heap.size + 1, 0, none⟩) (by simp) _⟩
      · rw [if_neg h3] at hE
        rw [decide_eq_true (show k ≤ 256 by omega), Bool.true_and] at hp
        have hd3 : ¬ ((256 : Int) < (k : Int)) := by omega
        have hw1 : IntKind.i64.wrap (k : Int) = (k : Int) := by rw [IntKind.wrap_i64]; omega
        have hw2 : IntKind.i64.wrap (1 + (k : Int)) = 1 + (k : Int) := by rw [IntKind.wrap_i64]; omega
        have hw3 : IntKind.i64.wrap (1024 * (1 + (k : Int))) = 1024 * (1 + (k : Int)) := by rw [IntKind.wrap_i64]; omega
        by_cases h4 : L < 1024 * (1 + k)
        · rw [if_pos h4] at hE
          subst hE
          clear hp
          have hd4 : ((L : Int) < 1024 * (1 + (k : Int))) := by omega
          go_wp2_with (first | (refine wpList_store_row rfl 60 (.tmp 2) _ rfl w.heap.size #[.int .u64 0, .slice none 0 0] rfl rfl 60 _ X.out (by kernel_rfl) rfl (by kernel_rfl) ?_; obtain ⟨W3, hW3⟩ : ∃ Y, Y = W.setRow w.heap.size #[.int .u64 0, .slice none 0 0] := ⟨_, rfl⟩; rw [← hW3]; have X3 := Lib.hid (show W3.heap[w.heap.size]? = some (.cells #[.int .u64 0, .slice none 0 0] 60 (0, 0)) by rw [hW3]; exact setRow_heap _ _ _ _ _ _ X.out); have Y3 := Lib.hid (show W3.heap[w.heap.size + 1]? = some (.cells #[.int .i64 0] 42 (0, 0)) by rw [hW3, setRow_other _ _ _ _ (by omega)]; exact Y.out); have D3 := Lib.hid (show Below w.heap.size w W3 by rw [hW3]; exact below_setRow D.out (Nat.le_refl _) _); clear hW3; have c3 : W3.cell? ⟨w.heap.size + 1, 0, none⟩ = some (.int .i64 0) := (cell_of_row _ _ 0 _ _ _ Y3.out).trans rfl; have z3 := frozen_of_row _ _ 0 _ _ Y3.out) | (go_at_call 40; go_loud (refine (VAL.out _ D.out).mono ?_; rintro e w2 ⟨rfl, rfl⟩)) | (go_at_call 41; go_loud (refine (CON.out _ D.out).mono ?_; rintro e w2 ⟨rfl, hw⟩; replace X := Lib.hid (blk_below X.out hw); replace Y := Lib.hid (blk_below Y.out hw); replace D := Lib.hid (gr_tr D.out hw); clear hw; obtain ⟨W, hW⟩ : ∃ Y, Y = w2 := ⟨_, rfl⟩; subst hW)))
          exact bodyPost_ret (results_row_cell rfl _ _ w.heap.size 60 #[.int .u64 0, .slice none 0 0] (0, 0) _ (w.heap.size + 1) _ 42 (0, 0) _ rfl (by rw [heap_setCell_other _ _ _ _ (show w.heap.size ≠ w.heap.size + 1 by omega)]; exact X3.out) Tryz.underlying60 rfl (by kernel_rfl) rfl (heap_setCell_same _ _ _ _ _ _ Y3.out) Tryz.underlying42 rfl) rfl ⟨rfl, D3.out.setCell (p := ⟨w.heap.size + 1, 0, none⟩) (by simp) _⟩
        · rw [if_neg h4] at hE
          by_cases h5 : 1024 * (1 + k) < L
          · rw [if_pos h5] at hE
            subst hE
            clear hp
            have hd4 : ¬ ((L : Int) < 1024 * (1 + (k : Int))) := by omega
            have hd5 : (1024 * (1 + (k : Int)) < (L : Int)) := by omega
            go_wp2_with (first | (refine wpList_store_row rfl 60 (.tmp 2) _ rfl w.heap.size #[.int .u64 0, .slice none 0 0] rfl rfl 60 _ X.out (by kernel_rfl) rfl (by kernel_rfl) ?_; obtain ⟨W3, hW3⟩ : ∃ Y, Y = W.setRow w.heap.size #[.int .u64 0, .slice none 0 0] := ⟨_, rfl⟩; rw [← hW3]; have X3 := Lib.hid (show W3.heap[w.heap.size]? = some (.cells #[.int .u64 0, .slice none 0 0] 60 (0, 0)) by rw [hW3]; exact setRow_heap _ _ _ _ _ _ X.out); have Y3 := Lib.hid (show W3.heap[w.heap.size + 1]? = some (.cells #[.int .i64 0] 42 (0, 0)) by rw [hW3, setRow_other _ _ _ _ (by omega)]; exact Y.out); have D3 := Lib.hid (show Below w.heap.size w W3 by rw [hW3]; exact below_setRow D.out (Nat.le_refl _) _); clear hW3; have c3 : W3.cell? ⟨w.heap.size + 1, 0, none⟩ = some (.int .i64 0) := (cell_of_row _ _ 0 _ _ _ Y3.out).trans rfl; have z3 := frozen_of_row _ _ 0 _ _ Y3.out) | (go_at_call 40; go_loud (refine (VAL.out _ D.out).mono ?_; rintro e w2 ⟨rfl, rfl⟩)) | (go_at_call 41; go_loud (refine (CON.out _ D.out).mono ?_; rintro e w2 ⟨rfl, hw⟩; replace X := Lib.hid (blk_below X.out hw); replace Y := Lib.hid (blk_below Y.out hw); replace D := Lib.hid (gr_tr D.out hw); clear hw; obtain ⟨W, hW⟩ : ∃ Y, Y = w2 := ⟨_, rfl⟩; subst hW)))
            exact bodyPost_ret (results_row_cell rfl _ _ w.heap.size 60 #[.int .u64 0, .slice none 0 0] (0, 0) _ (w.heap.size + 1) _ 42 (0, 0) _ rfl (by rw [heap_setCell_other _ _ _ _ (show w.heap.size ≠ w.heap.size + 1 by omega)]; exact X3.out) Tryz.underlying60 rfl (by kernel_rfl) rfl (heap_setCell_same _ _ _ _ _ _ Y3.out) Tryz.underlying42 rfl) rfl ⟨rfl, D3.out.setCell (p := ⟨w.heap.size + 1, 0, none⟩) (by simp) _⟩
          · exfalso
            rw [decide_eq_true (show L = 1024 * (1 + k) by omega)] at hp
            cases hp
end Go.Proofs.YtjcgdenkmmgmfaaGreatDoor
