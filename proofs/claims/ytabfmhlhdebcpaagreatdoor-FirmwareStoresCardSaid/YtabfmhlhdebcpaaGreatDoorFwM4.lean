/- Merged: FwX, FwY, FwZ, FwAA, FwAB, FwAC, FwAD, FwAE, FwAF. -/
import Derived.Test.YtabfmhlhdebcpaaGreatDoorFwM3
import Derived.Test.YtabfmhlhdebcpaaGreatDoorRef01
namespace Go.Proofs.YtabfmhlhdebcpaaGreatDoor
open Go.RowKit Fw
set_option linter.unusedVariables false
set_option linter.unusedSimpArgs false
attribute [local go_sem] Oper.semAt_some
/-- The block of a value of the reference. -/
def RbAt (w : World) (q : Nat) (x : St) (lv : Value) : Prop := w.heap[q]? = some (.cells (x.cells lv).toArray 37 (0, 0))
section
variable {w w' : World} {q : Nat} {x : St} {lv : Value}
theorem RbAt.new (w : World) (x : St) (lv : Value) : RbAt (w.alloc (.cells (x.cells lv).toArray 37)) w.heap.size x lv := heap_alloc_new w _
theorem RbAt.below (h : RbAt w q x lv) (hb : Below w.heap.size w w') : RbAt w' q x lv := blk_below h hb
theorem RbAt.cn (h : RbAt w q x lv) : w.cell? ⟨q, 0, none⟩ = some (.int .i64 x.c.n) := (cell_of_row _ _ 0 _ _ _ h).trans rfl
theorem RbAt.cro (h : RbAt w q x lv) : w.cell? ⟨q, 1, none⟩ = some (.bool x.c.ro) := (cell_of_row _ _ 1 _ _ _ h).trans rfl
theorem RbAt.cmx (h : RbAt w q x lv) : w.cell? ⟨q, 3, none⟩ = some (.int .i64 x.c.mx) := (cell_of_row _ _ 3 _ _ _ h).trans rfl
theorem RbAt.cact (h : RbAt w q x lv) : w.cell? ⟨q, 4, none⟩ = some (.int .i64 x.s.act) := (cell_of_row _ _ 4 _ _ _ h).trans rfl
theorem RbAt.cnxt (h : RbAt w q x lv) : w.cell? ⟨q, 5, none⟩ = some (.int .i64 x.s.nxt) := (cell_of_row _ _ 5 _ _ _ h).trans rfl
theorem RbAt.crev (h : RbAt w q x lv) (k : Nat) (r : Bs) (hr : x.s.revs[k]? = some r) : w.cell? ⟨q, 6 + k, none⟩ = some (.string (strOf r)) :=
  (cell_of_row _ _ (6 + k) _ _ _ h).trans (by rw [List.getElem?_toArray]; exact St.cells_rev x lv k r hr)
theorem RbAt.cpc (h : RbAt w q x lv) (hl : x.s.revs.length = 7) : w.cell? ⟨q, 13, none⟩ = some lv := (cell_of_row _ _ 13 _ _ _ h).trans (by rw [List.getElem?_toArray]; exact St.cells_last x lv hl)
theorem RbAt.fz (h : RbAt w q x lv) (j : Nat) : w.frozen? ⟨q, j, none⟩ = false := frozen_of_row _ _ j _ _ h
theorem RbAt.setpcs (h : RbAt w q x lv) (lv' : Value) (ps : List Pc) (hl : x.s.revs.length = 7) : RbAt (w.setCell ⟨q, 13, none⟩ lv') q { x with ps := ps } lv' :=
  (heap_setCell_same w q 13 _ _ lv' h).trans (by rw [St.set_last x lv lv' ps hl])
theorem RbAt.setnxt (h : RbAt w q x lv) (k : Int) : RbAt (w.setCell ⟨q, 5, none⟩ (.int .i64 k)) q { x with s := { x.s with nxt := k } } lv :=
  (heap_setCell_same w q 5 _ _ (.int .i64 k) h).trans (by rw [St.set_nxt])
theorem RbAt.setact (h : RbAt w q x lv) (k : Int) : RbAt (w.setCell ⟨q, 4, none⟩ (.int .i64 k)) q { x with s := { x.s with act := k } } lv :=
  (heap_setCell_same w q 4 _ _ (.int .i64 k) h).trans (by rw [St.set_act])
end
theorem rwr_at (x : St) (lv : Value) (k : Int) (b : Bool) (w : World) (hb : wr x k = b) :
    Calls Tryz.prog 55 #[.agg (x.cells lv).toArray, .int .i64 k] w fun e w' => e = .returned (.bool b) ∧ Below w.heap.size w w' := by
  obtain ⟨W, hW⟩ : ∃ W, W = w.alloc (.cells (x.cells lv).toArray 37) := ⟨_, rfl⟩
  have D := Lib.hid (show Below w.heap.size w W by rw [hW]; exact gr_alloc w _)
  have R : RbAt W w.heap.size x lv := by rw [hW]; exact RbAt.new w x lv
  have c0 := R.cn
  have c1 := R.cro
  have c4 := R.cact
  obtain ⟨cs, hcs⟩ : ∃ c, (x.cells lv).toArray = c := ⟨_, rfl⟩
  rw [hcs] at hW ⊢
  have HW := Lib.hid hW
  unfold wr at hb
  obtain ⟨n, hn⟩ : ∃ n, x.c.n = n := ⟨_, rfl⟩
  obtain ⟨ro, hro⟩ : ∃ n, x.c.ro = n := ⟨_, rfl⟩
  obtain ⟨act, hact⟩ : ∃ n, x.s.act = n := ⟨_, rfl⟩
  rw [hn] at c0 hb
  rw [hro] at c1 hb
  rw [hact] at c4 hb
  clear hn hro hact hcs hW R
  by_cases g1 : 1 ≤ k
  · by_cases g2 : k ≤ n
    · rw [decide_eq_true g1, decide_eq_true g2] at hb
      by_cases g3 : k = act
      · subst g3
        have hb2 : b = false := by rw [← hb]; simp
        subst hb2
        clear hb
        have g4 : (k == k) = true := by simp
        (go_enter Tryz.func55, Tryz.ntmps55; go_upto_region 1 with fail; rw [← HW.out]; go_wp2; go_ret; exact ⟨rfl, D.out⟩)
      · have g5 : (k == act) = false := by simpa using g3
        rw [g5] at hb
        by_cases g6 : k = 1
        · subst g6
          have hb2 : b = !ro := by rw [← hb]; simp
          subst hb2
          clear hb
          cases ro <;> (go_enter Tryz.func55, Tryz.ntmps55; go_upto_region 1 with fail; rw [← HW.out]; go_wp2; go_ret; exact ⟨rfl, D.out⟩)
        · have g7 : (k == 1) = false := by simpa using g6
          have g8 : (1 : Int) < k := by omega
          rw [g7] at hb
          have hb2 : b = true := by rw [← hb]; simp
          subst hb2
          clear hb
          (go_enter Tryz.func55, Tryz.ntmps55; go_upto_region 1 with fail; rw [← HW.out]; go_wp2; go_ret; exact ⟨rfl, D.out⟩)
    · rw [decide_eq_false g2] at hb
      have hb2 : b = false := by rw [← hb]; simp
      subst hb2
      clear hb
      (go_enter Tryz.func55, Tryz.ntmps55; go_upto_region 1 with fail; rw [← HW.out]; go_wp2; go_ret; exact ⟨rfl, D.out⟩)
  · rw [decide_eq_false g1] at hb
    have hb2 : b = false := by rw [← hb]; simp
    subst hb2
    clear hb
    (go_enter Tryz.func55, Tryz.ntmps55; go_upto_region 1 with fail; rw [← HW.out]; go_wp2; go_ret; exact ⟨rfl, D.out⟩)
/-- Some slot below k can be written. -/
def lowr (x : St) (k : Int) : Bool := (List.range (k - 1).toNat).any (fun i => wr x ((i : Int) + 1))
theorem rlower_at (x : St) (lv : Value) (k : Int) (b : Bool) (w : World) (hl7 : x.s.revs.length = 7) (hk : k ≤ 7) (hk0 : -9223372036854775808 ≤ k) (hb : lowr x k = b) :
    Calls Tryz.prog 56 #[.agg (x.cells lv).toArray, .int .i64 k] w fun e w' => e = .returned (.bool b) ∧ Below w.heap.size w w' := by
  obtain ⟨W, hW⟩ : ∃ W, W = w.alloc (.cells (x.cells lv).toArray 37) := ⟨_, rfl⟩
  have D := Lib.hid (show Below w.heap.size w W by rw [hW]; exact gr_alloc w _)
  have R : RbAt W w.heap.size x lv := by rw [hW]; exact RbAt.new w x lv
  have WR := Lib.hid (fun k b w hb => rwr_at x lv k b w hb)
  obtain ⟨cs, hcs⟩ : ∃ c, (x.cells lv).toArray = c := ⟨_, rfl⟩
  have X := Lib.hid (show W.heap[w.heap.size]? = some (.cells cs 37 (0, 0)) by rw [← hcs]; exact R)
  have SZ := Lib.hid (show cs.size = 14 by rw [← hcs, List.size_toArray]; exact St.cells_len x lv hl7)
  rw [hcs] at hW WR ⊢
  have HW := Lib.hid hW
  have HB := Lib.hid hb
  clear hcs hW R hb
  go_enter Tryz.func56, Tryz.ntmps56
  go_upto_region 1 with fail
  rw [← HW.out]
  go_wp2
  go_loopw [5] (fun i wr' => ∃ j : Nat, i = .int .i64 ((j : Int) + 1) ∧ ((j : Int) + 1 ≤ k ∨ j = 0) ∧ Hid ((List.range j).any (fun i => wr x ((i : Int) + 1)) = false) ∧ Below W.heap.size W wr') (fun i _ => (k + 1 - intOf i).toNat)
  case atStart => exact ⟨0, rfl, .inr rfl, Lib.hid rfl, Below.refl _ _⟩
  case round =>
    obtain ⟨j, rfl, hj, HJ, hbw⟩ := hrel
    have BW := Lib.hid hbw
    have X1 := Lib.hid (blk_below X.out hbw)
    clear hbw
    by_cases hlt : (j : Int) + 1 < k
    · cases hwr : Fw.wr x ((j : Int) + 1)
      · have HR := Lib.hid hwr
        clear hwr
        go_wp2_with (first
          | (refine wpList_load_row rfl 37 (.tmp 2) rfl w.heap.size rfl 37 cs (0, 0) _ X1.out Tryz.underlying37 rfl (by rw [SZ.out]; kernel_rfl) ?_)
          | (go_at_call 55; go_loud (refine (WR.out _ false _ HR.out).mono ?_; rintro e w3 ⟨rfl, hb⟩; have B3 := Lib.hid (gr_tr BW.out hb); clear hb)))
        go_roundw
        case rel => exact ⟨j + 1, by go_num, .inl (by omega), Lib.hid (by rw [List.range_succ, List.any_append, HJ.out]; simp [HR.out]), B3.out⟩
        case measure => simp [intOf]; omega
      · have HR := Lib.hid hwr
        clear hwr
        have hbt : b = true := by
          rw [← HB.out]
          unfold lowr
          rw [List.any_eq_true]
          exact ⟨j, List.mem_range.2 (by omega), HR.out⟩
        subst hbt
        go_wp2_with (first
          | (refine wpList_load_row rfl 37 (.tmp 2) rfl w.heap.size rfl 37 cs (0, 0) _ X1.out Tryz.underlying37 rfl (by rw [SZ.out]; kernel_rfl) ?_)
          | (go_at_call 55; go_loud (refine (WR.out _ true _ HR.out).mono ?_; rintro e w3 ⟨rfl, hb⟩; have B3 := Lib.hid (gr_tr BW.out hb); clear hb)))
        go_ret
        exact ⟨rfl, gr_tr D.out B3.out⟩
    · have hbt : b = false := by
        rw [← HB.out]
        unfold lowr
        rw [← Bool.not_eq_true, List.any_eq_true]
        rintro ⟨i, hi, hw⟩
        have hi := List.mem_range.1 hi
        have h2 := HJ.out
        rw [List.any_eq_false] at h2
        exact h2 i (List.mem_range.2 (by omega)) hw
      subst hbt
      go_wp2
      go_ret
      exact ⟨rfl, gr_tr D.out BW.out⟩
end Go.Proofs.YtabfmhlhdebcpaaGreatDoor
namespace Go.Proofs.YtabfmhlhdebcpaaGreatDoor
open Go.RowKit Fw
set_option linter.unusedVariables false
set_option linter.unusedSimpArgs false
attribute [local go_sem] Oper.semAt_some
set_option maxRecDepth 20000 in
set_option maxHeartbeats 1600000 in
theorem Valid_at (c : Cfg) (b : Bool) (w : World) (hR : c.R) (h : cfgOk c = b) :
    Calls Tryz.prog 11 #[.agg c.cells.toArray] w fun e w' => e = .returned (.bool b) ∧ Below w.heap.size w w' := by
  obtain ⟨rb, hrb⟩ : ∃ b, revOk c.rev = b := ⟨_, rfl⟩
  have REV := Lib.hid (fun w => rRevision_at c.rev rb w hR.2.1 hrb)
  unfold cfgOk at h
  rw [hrb] at h
  obtain ⟨n, ro, rev, mx⟩ := c
  obtain ⟨h1, h2, h3⟩ := hR
  obtain ⟨st, hst⟩ : ∃ s, strOf rev = s := ⟨_, rfl⟩
  show Calls Tryz.prog 11 #[.agg #[.int .i64 n, .bool ro, .string (strOf rev), .int .i64 mx]] w _
  have REV : Hid (∀ w, Calls Tryz.prog 29 #[.string (strOf rev)] w fun e w' => e = .returned (.bool rb) ∧ Below w.heap.size w w') := REV
  have h : (decide (1 ≤ n) && decide (n ≤ 7) && decide (12 ≤ mx) && decide (mx ≤ 1048576) && decide (mx.tmod 4 = 0) && rb) = b := h
  rw [hst] at REV ⊢
  obtain ⟨W, hW⟩ : ∃ W, W = w.alloc (.cells #[.int .i64 n, .bool ro, .string st, .int .i64 mx] 23) := ⟨_, rfl⟩
  have D := Lib.hid (show Below w.heap.size w W by rw [hW]; exact gr_alloc w _)
  have X : W.heap[w.heap.size]? = some (.cells #[.int .i64 n, .bool ro, .string st, .int .i64 mx] 23 (0, 0)) := by rw [hW]; exact heap_alloc_new w _
  have HW := Lib.hid hW
  have c0 : W.cell? ⟨w.heap.size, 0, none⟩ = some (.int .i64 n) := (cell_of_row _ _ 0 _ _ _ X).trans rfl
  have c2 : W.cell? ⟨w.heap.size, 2, none⟩ = some (.string st) := (cell_of_row _ _ 2 _ _ _ X).trans rfl
  have c3 : W.cell? ⟨w.heap.size, 3, none⟩ = some (.int .i64 mx) := (cell_of_row _ _ 3 _ _ _ X).trans rfl
  clear hW X hst hrb h1 h2 h3
  obtain ⟨t, ht⟩ : ∃ t, mx.tmod 4 = t := ⟨_, rfl⟩
  rw [ht] at h
  by_cases g1 : 1 ≤ n
  · by_cases g2 : n ≤ 7
    · by_cases g3 : 12 ≤ mx
      · by_cases g4 : mx ≤ 1048576
        · by_cases g5 : t = 0
          · subst g5
            rw [decide_eq_true g1, decide_eq_true g2, decide_eq_true g3, decide_eq_true g4] at h
            obtain rfl : rb = b := by simpa using h
            clear h
            (go_enter Tryz.func11, Tryz.ntmps11; go_upto_region 1 with fail; rw [← HW.out]; go_wp2_with (go_at_call 29; go_loud (refine (REV.out _).mono ?_; rintro e w1 ⟨rfl, hb⟩; have D2 := Lib.hid (gr_tr D.out hb); clear hb)))
            go_ret
            exact ⟨rfl, D2.out⟩
          · have g6 : (t == 0) = false := by simpa using g5
            obtain rfl : b = false := by rw [← h]; simp [g5]
            clear h
            (go_enter Tryz.func11, Tryz.ntmps11; go_upto_region 1 with fail; rw [← HW.out]; go_wp2_with (go_at_call 29; go_loud (refine (REV.out _).mono ?_; rintro e w1 ⟨rfl, hb⟩; have D2 := Lib.hid (gr_tr D.out hb); clear hb)))
            go_ret
            exact ⟨rfl, D.out⟩
        · obtain rfl : b = false := by rw [← h]; simp [g4]
          clear h
          (go_enter Tryz.func11, Tryz.ntmps11; go_upto_region 1 with fail; rw [← HW.out]; go_wp2_with (go_at_call 29; go_loud (refine (REV.out _).mono ?_; rintro e w1 ⟨rfl, hb⟩; have D2 := Lib.hid (gr_tr D.out hb); clear hb)))
          go_ret
          exact ⟨rfl, D.out⟩
      · obtain rfl : b = false := by rw [← h]; simp [g3]
        clear h
        (go_enter Tryz.func11, Tryz.ntmps11; go_upto_region 1 with fail; rw [← HW.out]; go_wp2_with (go_at_call 29; go_loud (refine (REV.out _).mono ?_; rintro e w1 ⟨rfl, hb⟩; have D2 := Lib.hid (gr_tr D.out hb); clear hb)))
        go_ret
        exact ⟨rfl, D.out⟩
    · obtain rfl : b = false := by rw [← h]; simp [g2]
      clear h
      (go_enter Tryz.func11, Tryz.ntmps11; go_upto_region 1 with fail; rw [← HW.out]; go_wp2_with (go_at_call 29; go_loud (refine (REV.out _).mono ?_; rintro e w1 ⟨rfl, hb⟩; have D2 := Lib.hid (gr_tr D.out hb); clear hb)))
      go_ret
      exact ⟨rfl, D.out⟩
  · obtain rfl : b = false := by rw [← h]; simp [g1]
    clear h
    (go_enter Tryz.func11, Tryz.ntmps11; go_upto_region 1 with fail; rw [← HW.out]; go_wp2_with (go_at_call 29; go_loud (refine (REV.out _).mono ?_; rintro e w1 ⟨rfl, hb⟩; have D2 := Lib.hid (gr_tr D.out hb); clear hb)))
    go_ret
    exact ⟨rfl, D.out⟩
set_option maxRecDepth 20000 in
set_option maxHeartbeats 1600000 in
theorem rNew_at (c : Cfg) (w : World) :
    Calls Tryz.prog 14 #[.agg c.cells.toArray] w fun e w' => e = .returned (.agg ((new c).cells (.slice none 0 0)).toArray) ∧ Below w.heap.size w w' := by
  obtain ⟨n, ro, rev, mx⟩ := c
  obtain ⟨st, hst⟩ : ∃ s, strOf rev = s := ⟨_, rfl⟩
  show Calls Tryz.prog 14 #[.agg #[.int .i64 n, .bool ro, .string (strOf rev), .int .i64 mx]] w fun e w' => e = .returned (.agg #[.int .i64 n, .bool ro, .string (strOf rev), .int .i64 mx, .int .i64 1, .int .i64 0, .string (strOf rev), .string ⟨#[]⟩, .string ⟨#[]⟩, .string ⟨#[]⟩, .string ⟨#[]⟩, .string ⟨#[]⟩, .string ⟨#[]⟩, .slice none 0 0]) ∧ _
  rw [hst]
  obtain ⟨W1, hW1⟩ : ∃ W, W = w.alloc (.cells #[.int .i64 n, .bool ro, .string st, .int .i64 mx] 23) := ⟨_, rfl⟩
  obtain ⟨W, hW⟩ : ∃ W, W = W1.alloc (.cells #[.int .i64 0, .bool false, .string ⟨#[]⟩, .int .i64 0, .int .i64 0, .int .i64 0, .string ⟨#[]⟩, .string ⟨#[]⟩, .string ⟨#[]⟩, .string ⟨#[]⟩, .string ⟨#[]⟩, .string ⟨#[]⟩, .string ⟨#[]⟩, .slice none 0 0] 37) := ⟨_, rfl⟩
  have D := Lib.hid (show Below w.heap.size w W by rw [hW, hW1]; exact gr_tr (gr_alloc w _) (gr_alloc _ _))
  have XC := Lib.hid (show W.heap[w.heap.size]? = some (.cells #[.int .i64 n, .bool ro, .string st, .int .i64 mx] 23 (0, 0)) by rw [hW]; exact blk_below (by rw [hW1]; exact heap_alloc_new w _) (gr_alloc _ _))
  have S1 := Lib.hid (show W1.heap.size = w.heap.size + 1 by rw [hW1]; simp)
  have XR := Lib.hid (show W.heap[w.heap.size + 1]? = some (.cells #[.int .i64 0, .bool false, .string ⟨#[]⟩, .int .i64 0, .int .i64 0, .int .i64 0, .string ⟨#[]⟩, .string ⟨#[]⟩, .string ⟨#[]⟩, .string ⟨#[]⟩, .string ⟨#[]⟩, .string ⟨#[]⟩, .string ⟨#[]⟩, .slice none 0 0] 37 (0, 0)) by rw [← S1.out, hW]; exact heap_alloc_new W1 _)
  have HW1 := Lib.hid hW1; have HW := Lib.hid hW
  clear hW hW1 hst
  go_enter Tryz.func14, Tryz.ntmps14
  go_upto_region 1 with fail
  rw [← HW1.out, ← HW.out]
  clear HW HW1 S1
  go_upto_region 2 with (first
    | (refine wpList_load_row rfl 23 (.tmp 1) rfl w.heap.size rfl 23 #[.int .i64 n, .bool ro, .string st, .int .i64 mx] (0, 0) _ XC.out Tryz.underlying23 rfl (by kernel_rfl) ?_)
    | (refine wpList_store_new rfl 37 (.tmp 3) (.tmp 6) rfl #[.int .i64 n, .bool ro, .string st, .int .i64 mx, .int .i64 1, .int .i64 0, .string ⟨#[]⟩, .string ⟨#[]⟩, .string ⟨#[]⟩, .string ⟨#[]⟩, .string ⟨#[]⟩, .string ⟨#[]⟩, .string ⟨#[]⟩, .slice none 0 0] 37 _ rfl rfl (by kernel_rfl) rfl (by simp [Value.oneCell']) ?_; intro w3 hh hw; have Y3 := Lib.hid hh; have B3 := Lib.hid hw; clear hh hw))
  obtain ⟨q, hq⟩ : ∃ q, W.heap.size = q := ⟨_, rfl⟩
  have HQ := Lib.hid hq
  rw [hq] at Y3 ⊢
  have XC3 := Lib.hid (blk_below XC.out B3.out)
  have XR3 := Lib.hid (blk_below XR.out B3.out)
  have c2 : w3.cell? ⟨w.heap.size, 2, none⟩ = some (.string st) := (cell_of_row _ _ 2 _ _ _ XC3.out).trans rfl
  have q6 : w3.cell? ⟨q, 6, none⟩ = some (.string ⟨#[]⟩) := (cell_of_row _ _ 6 _ _ _ Y3.out).trans rfl
  have z6 : w3.frozen? ⟨q, 6, none⟩ = false := frozen_of_row _ _ 6 _ _ Y3.out
  have LR := Lib.hid (show w.heap.size + 1 < q by rw [← hq]; exact (Array.getElem?_eq_some_iff.1 XR.out).1)
  clear hq
  go_upto_region 3 with fail
  obtain ⟨w4, hw4⟩ : ∃ z, z = w3.setCell ⟨q, 6, none⟩ (.string st) := ⟨_, rfl⟩
  have Y4 := Lib.hid (show w4.heap[q]? = some (.cells #[.int .i64 n, .bool ro, .string st, .int .i64 mx, .int .i64 1, .int .i64 0, .string st, .string ⟨#[]⟩, .string ⟨#[]⟩, .string ⟨#[]⟩, .string ⟨#[]⟩, .string ⟨#[]⟩, .string ⟨#[]⟩, .slice none 0 0] 37 (0, 0)) by rw [hw4]; exact (heap_setCell_same w3 q 6 _ _ _ Y3.out).trans rfl)
  have XR4 := Lib.hid (show w4.heap[w.heap.size + 1]? = some (.cells #[.int .i64 0, .bool false, .string ⟨#[]⟩, .int .i64 0, .int .i64 0, .int .i64 0, .string ⟨#[]⟩, .string ⟨#[]⟩, .string ⟨#[]⟩, .string ⟨#[]⟩, .string ⟨#[]⟩, .string ⟨#[]⟩, .string ⟨#[]⟩, .slice none 0 0] 37 (0, 0)) by rw [hw4, heap_setCell_other _ _ _ _ (by have := LR.out; show w.heap.size + 1 ≠ q; omega)]; exact XR3.out)
  have B4 := Lib.hid (show Below w.heap.size w w4 by rw [hw4]; exact (gr_tr D.out B3.out).setCell (p := ⟨q, 6, none⟩) (by have := LR.out; show w.heap.size ≤ q; omega) _)
  rw [← hw4]
  clear hw4 c2 q6 z6
  go_wp2_with (first
    | (refine wpList_load_row rfl 37 (.tmp 3) rfl q rfl 37 #[.int .i64 n, .bool ro, .string st, .int .i64 mx, .int .i64 1, .int .i64 0, .string st, .string ⟨#[]⟩, .string ⟨#[]⟩, .string ⟨#[]⟩, .string ⟨#[]⟩, .string ⟨#[]⟩, .string ⟨#[]⟩, .slice none 0 0] (0, 0) _ Y4.out Tryz.underlying37 rfl (by kernel_rfl) ?_)
    | (refine wpList_store_rowC rfl 37 (.tmp 2) (.tmp 12) rfl (w.heap.size + 1) #[.int .i64 n, .bool ro, .string st, .int .i64 mx, .int .i64 1, .int .i64 0, .string st, .string ⟨#[]⟩, .string ⟨#[]⟩, .string ⟨#[]⟩, .string ⟨#[]⟩, .string ⟨#[]⟩, .string ⟨#[]⟩, .slice none 0 0] rfl rfl 37 _ XR4.out (by kernel_rfl) rfl (by simp [Value.oneCell']) ?_; intro w9 h9 hc; have X9 := Lib.hid h9; have C9 := Lib.hid hc; clear h9 hc))
  exact bodyPost_ret (results_cell_row rfl _ _ (w.heap.size + 1) 37 _ (0, 0) _ rfl X9.out Tryz.underlying37 rfl (by kernel_rfl)) rfl ⟨rfl, B4.out.trans (C9.out.below (fun k hk => by obtain rfl : k = w.heap.size + 1 := hk; omega) B4.out.size)⟩
end Go.Proofs.YtabfmhlhdebcpaaGreatDoor
namespace Go.Proofs.YtabfmhlhdebcpaaGreatDoor
open Go.RowKit Fw
set_option linter.unusedVariables false
set_option linter.unusedSimpArgs false
attribute [local go_sem] Oper.semAt_some
/-- The first two blocks of a function of the reference: the value, and the result. -/
structure Rf2 (w : World) (W : World) (x : St) (lv : Value) : Prop where
  bel : Below w.heap.size w W
  blk : RbAt W w.heap.size x lv
  res : W.heap[w.heap.size + 1]? = some (.cells #[.int .i64 0, .bool false, .string ⟨#[]⟩, .int .i64 0, .int .i64 0, .int .i64 0, .string ⟨#[]⟩, .string ⟨#[]⟩, .string ⟨#[]⟩, .string ⟨#[]⟩, .string ⟨#[]⟩, .string ⟨#[]⟩, .string ⟨#[]⟩, .slice none 0 0] 37 (0, 0))
  len : x.s.revs.length = 7
  one : lv.oneCell' = true
theorem Rf2.new (w : World) (x : St) (lv : Value) (hl : x.s.revs.length = 7) (h1 : lv.oneCell' = true) : Rf2 w ((w.alloc (.cells (x.cells lv).toArray 37)).alloc (.cells #[.int .i64 0, .bool false, .string ⟨#[]⟩, .int .i64 0, .int .i64 0, .int .i64 0, .string ⟨#[]⟩, .string ⟨#[]⟩, .string ⟨#[]⟩, .string ⟨#[]⟩, .string ⟨#[]⟩, .string ⟨#[]⟩, .string ⟨#[]⟩, .slice none 0 0] 37)) x lv :=
  ⟨gr_tr (gr_alloc w _) (gr_alloc _ _), (RbAt.new w x lv).below (gr_alloc _ _), by
    rw [show w.heap.size + 1 = (w.alloc (.cells (x.cells lv).toArray 37)).heap.size by simp]; exact heap_alloc_new _ _, hl, h1⟩
theorem Rf2.below {w W W' : World} {x : St} {lv : Value} (h : Rf2 w W x lv) (hb : Below W.heap.size W W') : Rf2 w W' x lv :=
  ⟨gr_tr h.bel hb, h.blk.below hb, blk_below h.res hb, h.len, h.one⟩
theorem Rf2.lt {w W : World} {x : St} {lv : Value} (h : Rf2 w W x lv) : w.heap.size + 1 < W.heap.size := (Array.getElem?_eq_some_iff.1 h.res).1
theorem Rf2.setpcs {w W : World} {x : St} {lv : Value} (h : Rf2 w W x lv) (lv' : Value) (ps : List Pc) (h1 : lv'.oneCell' = true) : Rf2 w (W.setCell ⟨w.heap.size, 13, none⟩ lv') { x with ps := ps } lv' :=
  ⟨h.bel.setCell (p := ⟨w.heap.size, 13, none⟩) (Nat.le_refl _) _, h.blk.setpcs lv' ps h.len, (heap_setCell_other _ _ _ _ (by show w.heap.size + 1 ≠ w.heap.size; omega)).trans h.res, h.len, h1⟩
theorem Rf2.setnxt {w W : World} {x : St} {lv : Value} (h : Rf2 w W x lv) (k : Int) : Rf2 w (W.setCell ⟨w.heap.size, 5, none⟩ (.int .i64 k)) { x with s := { x.s with nxt := k } } lv :=
  ⟨h.bel.setCell (p := ⟨w.heap.size, 5, none⟩) (Nat.le_refl _) _, h.blk.setnxt k, (heap_setCell_other _ _ _ _ (by show w.heap.size + 1 ≠ w.heap.size; omega)).trans h.res, h.len, h.one⟩
theorem Rf2.setact {w W : World} {x : St} {lv : Value} (h : Rf2 w W x lv) (k : Int) : Rf2 w (W.setCell ⟨w.heap.size, 4, none⟩ (.int .i64 k)) { x with s := { x.s with act := k } } lv :=
  ⟨h.bel.setCell (p := ⟨w.heap.size, 4, none⟩) (Nat.le_refl _) _, h.blk.setact k, (heap_setCell_other _ _ _ _ (by show w.heap.size + 1 ≠ w.heap.size; omega)).trans h.res, h.len, h.one⟩
theorem Rf2.setrev {w W : World} {x : St} {lv : Value} (h : Rf2 w W x lv) (k : Nat) (r : Bs) (hk : k < 7) : Rf2 w (W.setCell ⟨w.heap.size, 6 + k, none⟩ (.string (strOf r))) { x with s := { x.s with revs := x.s.revs.set k r } } lv :=
  ⟨h.bel.setCell (p := ⟨w.heap.size, 6 + k, none⟩) (Nat.le_refl _) _, (heap_setCell_same W w.heap.size (6 + k) _ _ _ h.blk).trans (by rw [St.set_rev x lv k r hk h.len]), (heap_setCell_other _ _ _ _ (by show w.heap.size + 1 ≠ w.heap.size; omega)).trans h.res, by show (x.s.revs.set k r).length = 7; rw [List.length_set]; exact h.len, h.one⟩
/-- The end: what lies in the result's block. -/
theorem Rf2.ret {w W W' : World} {x : St} {lv : Value} (h : Rf2 w W x lv) (hc : Chg (fun k => k = w.heap.size + 1) W W') : Below w.heap.size w W' :=
  h.bel.trans (hc.below (fun k hk => by obtain rfl : k = w.heap.size + 1 := hk; omega) h.bel.size)
theorem Rf2.sz {w W : World} {x : St} {lv : Value} (h : Rf2 w W x lv) : (x.cells lv).toArray.size = 14 := by rw [List.size_toArray]; exact St.cells_len x lv h.len
theorem Rf2.all {w W : World} {x : St} {lv : Value} (h : Rf2 w W x lv) : (x.cells lv).toArray.all (·.oneCell') = true := St.cells_one x lv h.one
set_option maxRecDepth 20000 in
set_option maxHeartbeats 1600000 in
theorem rReset_at (x : St) (lv : Value) (w : World) (hl : x.s.revs.length = 7) (h1 : lv.oneCell' = true) :
    Calls Tryz.prog 32 #[.agg (x.cells lv).toArray] w fun e w' => e = .returned (.tuple #[.agg ((rsS x).cells (.slice none 0 0)).toArray, .bool (rsB x)]) ∧ Below w.heap.size w w' := by
  obtain ⟨W, hW⟩ : ∃ W, W = (w.alloc (.cells (x.cells lv).toArray 37)).alloc (.cells #[.int .i64 0, .bool false, .string ⟨#[]⟩, .int .i64 0, .int .i64 0, .int .i64 0, .string ⟨#[]⟩, .string ⟨#[]⟩, .string ⟨#[]⟩, .string ⟨#[]⟩, .string ⟨#[]⟩, .string ⟨#[]⟩, .string ⟨#[]⟩, .slice none 0 0] 37) := ⟨_, rfl⟩
  have S0 := Lib.hid (show Rf2 w W x lv by rw [hW]; exact Rf2.new w x lv hl h1)
  have HW := Lib.hid hW
  have HL := Lib.hid hl
  have O1 := Lib.hid (show (Value.slice none 0 0).oneCell' = true from rfl)
  have c13 := S0.out.blk.cpc hl
  have z13 := S0.out.blk.fz 13
  obtain ⟨W2, hW2⟩ : ∃ V, V = W.setCell ⟨w.heap.size, 13, none⟩ (.slice none 0 0) := ⟨_, rfl⟩
  have S1 := Lib.hid (show Rf2 w W2 { x with ps := [] } (.slice none 0 0) by rw [hW2]; exact S0.out.setpcs _ _ rfl)
  have HW2 := Lib.hid hW2
  have c4 : W2.cell? ⟨w.heap.size, 4, none⟩ = some (.int .i64 x.s.act) := S1.out.blk.cact
  have c5 : W2.cell? ⟨w.heap.size, 5, none⟩ = some (.int .i64 x.s.nxt) := S1.out.blk.cnxt
  obtain ⟨x1, hx1⟩ : ∃ z : St, { x with ps := [] } = z := ⟨_, rfl⟩
  rw [hx1] at S1
  have HX1 := Lib.hid hx1
  clear hx1
  have z4 := S1.out.blk.fz 4
  have z5 := S1.out.blk.fz 5
  have RB := Lib.hid (show rsB x = (!(x.s.nxt == 0) && !(x.s.nxt == x.s.act)) from rfl)
  have hsv : lv.oneCell' = true := h1
  obtain ⟨cs, hcs⟩ : ∃ c, (x.cells lv).toArray = c := ⟨_, rfl⟩
  rw [hcs] at HW ⊢
  obtain ⟨act, hact⟩ : ∃ n, x.s.act = n := ⟨_, rfl⟩
  obtain ⟨nxt, hnxt⟩ : ∃ n, x.s.nxt = n := ⟨_, rfl⟩
  have HA := Lib.hid hact; have HX := Lib.hid hnxt
  obtain ⟨rb, hrb⟩ : ∃ b, rsB x = b := ⟨_, rfl⟩
  rw [hact] at c4 RB
  rw [hnxt] at c5 RB
  rw [hrb] at RB ⊢
  clear hact hnxt hrb hW hW2 hcs hl
  go_enter Tryz.func32, Tryz.ntmps32
  go_upto_region 1 with fail
  rw [← HW.out]
  go_upto_region 2 with fail
  rw [← HW2.out]
  clear c13 z13
  by_cases hz : nxt = 0
  · subst hz
    go_wp2_with (first
      | (refine wpList_load_row rfl 37 (.tmp 1) rfl w.heap.size rfl 37 (x1.cells (.slice none 0 0)).toArray (0, 0) _ S1.out.blk Tryz.underlying37 rfl (by rw [S1.out.sz]; kernel_rfl) ?_)
      | (refine wpList_store_rowC rfl 37 (.tmp 2) (.tmp 10) rfl (w.heap.size + 1) (x1.cells (.slice none 0 0)).toArray rfl rfl 37 _ S1.out.res (by rw [S1.out.sz]; kernel_rfl) (by rw [S1.out.sz]; rfl) S1.out.all ?_; intro w9 h9 hc; have X9 := Lib.hid h9; have C9 := Lib.hid hc; clear h9 hc))
    refine bodyPost_ret (results_row_tmp rfl _ _ (w.heap.size + 1) 37 _ (0, 0) _ rfl X9.out Tryz.underlying37 rfl (by rw [S1.out.sz]; kernel_rfl)) rfl ?_
    refine ⟨?_, S1.out.ret C9.out⟩
    rw [rsS_zero HX.out, RB.out, HX1.out]
    rfl
  · have hz2 : (nxt == 0) = false := by simpa using hz
    have HZ := Lib.hid hz
    clear hz
    obtain ⟨W3, hW3⟩ : ∃ V, V = (W2.setCell ⟨w.heap.size, 4, none⟩ (.int .i64 nxt)).setCell ⟨w.heap.size, 5, none⟩ (.int .i64 0) := ⟨_, rfl⟩
    have h1 := (S1.out.setact nxt).setnxt 0
    rw [← HX1.out] at h1
    have S3 := Lib.hid (show Rf2 w W3 { x with ps := [], s := { x.s with act := nxt, nxt := 0 } } (.slice none 0 0) by rw [hW3]; exact h1)
    obtain ⟨x3, hx3⟩ : ∃ z : St, { x with ps := [], s := { x.s with act := nxt, nxt := 0 } } = z := ⟨_, rfl⟩
    rw [hx3] at S3
    have HX3 := Lib.hid hx3
    clear hx3 h1
    have HW3 := Lib.hid hW3
    clear hW3
    go_upto_region 6 with fail
    rw [← HW3.out]
    clear c4 c5 z4 z5
    go_wp2_with (first
      | (refine wpList_load_row rfl 37 (.tmp 1) rfl w.heap.size rfl 37 (x3.cells (.slice none 0 0)).toArray (0, 0) _ S3.out.blk Tryz.underlying37 rfl (by rw [S3.out.sz]; kernel_rfl) ?_)
      | (refine wpList_store_rowC rfl 37 (.tmp 2) (.tmp 25) rfl (w.heap.size + 1) (x3.cells (.slice none 0 0)).toArray rfl rfl 37 _ S3.out.res (by rw [S3.out.sz]; kernel_rfl) (by rw [S3.out.sz]; rfl) S3.out.all ?_; intro w9 h9 hc; have X9 := Lib.hid h9; have C9 := Lib.hid hc; clear h9 hc))
    refine bodyPost_ret (results_row_tmp rfl _ _ (w.heap.size + 1) 37 _ (0, 0) _ rfl X9.out Tryz.underlying37 rfl (by rw [S3.out.sz]; kernel_rfl)) rfl ?_
    refine ⟨?_, S3.out.ret C9.out⟩
    rw [rsS_some (by rw [HX.out]; exact HZ.out), HX.out, RB.out, hz2, HX3.out]
    rfl
end Go.Proofs.YtabfmhlhdebcpaaGreatDoor
namespace Go.Proofs.YtabfmhlhdebcpaaGreatDoor
open Go.RowKit Fw
set_option linter.unusedVariables false
set_option linter.unusedSimpArgs false
attribute [local go_sem] Oper.semAt_some
namespace Fw
theorem contig_app (a b : List Pc) : ∀ e, contig e (a ++ b) = (contig e a && contig (e + (cat a).length) b) := by
  induction a with
  | nil => intro e; simp [contig, cat]
  | cons q a ih =>
    intro e
    show (decide (q.at_ = e) && contig (e + q.d.length) (a ++ b)) = ((decide (q.at_ = e) && contig (e + q.d.length) a) && contig (e + (cat (q :: a)).length) b)
    rw [ih, Bool.and_assoc]
    have : (cat (q :: a)).length = q.d.length + (cat a).length := by unfold cat; rw [List.flatMap_cons, List.length_append]
    rw [this, Nat.add_assoc]
theorem take_snoc {α : Type} {l : List α} {k : Nat} {x : α} (h : l[k]? = some x) : l.take (k + 1) = l.take k ++ [x] := by
  obtain ⟨hl, e⟩ := List.getElem?_eq_some_iff.1 h
  rw [List.take_succ_eq_append_getElem hl, e]
theorem contig_more {ps : List Pc} {k : Nat} {p : Pc} (h : ps[k]? = some p) : contig 0 (ps.take (k + 1)) = (contig 0 (ps.take k) && decide (p.at_ = (cat (ps.take k)).length)) := by
  rw [take_snoc h, contig_app]
  unfold contig contig
  rw [Bool.and_true, Nat.zero_add]
theorem contig_stop {ps : List Pc} {k : Nat} (h : contig 0 (ps.take k) = false) : contig 0 ps = false := by
  rw [← List.take_append_drop k ps, contig_app, h, Bool.false_and]
theorem cat_more {ps : List Pc} {k : Nat} {p : Pc} (h : ps[k]? = some p) : cat (ps.take (k + 1)) = cat (ps.take k) ++ p.d := by
  rw [take_snoc h]; unfold cat; rw [List.flatMap_append]; simp
theorem cat_take_le (ps : List Pc) (k : Nat) : (cat (ps.take k)).length ≤ (cat ps).length := by
  conv => rhs; rw [← List.take_append_drop k ps]
  unfold cat; rw [List.flatMap_append, List.length_append]; omega
end Fw
set_option maxRecDepth 20000 in
set_option maxHeartbeats 6400000 in
theorem rname_at (lv : Value) (ps : List Pc) (dvs : List Value) (w : World) (h : PcsAt 67 w ps lv dvs) (hs : (cat ps).length ≤ 1048576) (hc : ps.length ≤ 1048576) :
    Calls Tryz.prog 57 #[lv] w fun e w' => e = .returned (.string (strOf (nm ps))) ∧ Below w.heap.size w w' := by
  have H := Lib.hid h
  have HS := Lib.hid hs
  obtain ⟨al, cl, rfl⟩ : ∃ a c, lv = .slice a ps.length c := own_shape h.own
  obtain ⟨n, hn⟩ : ∃ n, ps.length = n := ⟨_, rfl⟩
  have HN := Lib.hid hn
  obtain ⟨T, hT⟩ : ∃ T, strOf (nm ps) = T := ⟨_, rfl⟩
  have HT := Lib.hid hT
  rw [hT]
  rw [hn] at H hc ⊢
  clear h hs hn hT
  go_enter Tryz.func57, Tryz.ntmps57
  go_wp2
  go_loopw [3, 4] (fun b i wr => ∃ k : Nat, k ≤ n ∧ i = .int .i64 k ∧ wr.ownsRow w.heap.size 5 1 b (cat (ps.take k)).length (by8 (cat (ps.take k))) ∧ Hid (contig 0 (ps.take k) = true) ∧ Below w.heap.size w wr) (fun _ i _ => n - (intOf i).toNat)
  case atStart => exact ⟨0, by omega, rfl, World.ownsRow_nil _ _ _ _, Lib.hid rfl, Below.refl _ _⟩
  case round =>
    obtain ⟨k, hk, rfl, ho, HC, hb⟩ := hrel
    have O := Lib.hid ho
    have BW := Lib.hid hb
    have HLT := Lib.hid (cat_take_le ps k)
    obtain ⟨ab, cb, hsb⟩ := own_shape ho
    subst hsb
    obtain ⟨m, hm⟩ : ∃ m, (cat (ps.take k)).length = m := ⟨_, rfl⟩
    have HM := Lib.hid hm
    rw [hm] at O HLT
    rw [hm]
    have hm6 := Lib.hid (Nat.le_trans HLT.out HS.out)
    clear ho hb hm
    by_cases hlt : k < n
    · obtain ⟨p, hp⟩ : ∃ p, ps[k]? = some p := ⟨_, List.getElem?_eq_getElem (by rw [HN.out]; exact hlt)⟩
      obtain ⟨dv, hdv, hz⟩ := H.out.get k p hp
      obtain ⟨gq, o, cq, he1, hr1⟩ := SliceV.rng pcC_len (SliceV.below H.out.slice BW.out) k _ hz (by decide)
      injection he1 with he1 he1' he1''
      subst he1; subst he1''
      have hea : wr.cell? ⟨gq, o + k * 2, none⟩ = some (.int .i64 (p.at_ : Int)) := by have h := hr1 0 _ rfl; simpa using h
      have hed : wr.cell? ⟨gq, o + k * 2 + 1, none⟩ = some dv := hr1 1 _ rfl
      have DV := Lib.hid (own_below (H.out.el k p dv hp hdv) BW.out)
      have CM := Lib.hid (contig_more hp)
      have TM := Lib.hid (cat_more hp)
      have CS := Lib.hid (fun h => contig_stop (ps := ps) (k := k + 1) h)
      have LT1 := Lib.hid (Nat.le_trans (cat_take_le ps (k + 1)) HS.out)
      rw [HM.out] at CM
      clear hz hr1 he1' hdv hp
      by_cases ha : p.at_ = m
      · rw [ha] at hea
        have ha2 : (m != m) = false := by simp
        have HC2 := Lib.hid (show contig 0 (ps.take (k + 1)) = true by rw [CM.out, HC.out, ha]; simp)
        obtain ⟨ad, cd, hsd⟩ := own_shape DV.out
        subst hsd
        obtain ⟨a0, c0, he0, hnil, hmc, hm63, hrow⟩ := BytesV.of_own DV.out
        injection he0 with e1 e2 e3
        subst e1; subst e3
        have RW := Lib.hid hrow
        have LL := Lib.hid (show m + p.d.length ≤ 1048576 by
          have h := LT1.out
          rw [TM.out, List.length_append, HM.out] at h
          exact h)
        have MC := Lib.hid hmc
        have NL := Lib.hid hnil
        have D1 := Lib.hid (by8_one p.d)
        have DL := Lib.hid (by8_length p.d)
        obtain ⟨L, hL⟩ : ∃ L, p.d.length = L := ⟨_, rfl⟩
        have HLL := Lib.hid hL
        obtain ⟨xs, hxs⟩ : ∃ z, by8 p.d = z := ⟨_, rfl⟩
        have HXS := Lib.hid hxs
        rw [hL] at hed LL MC DL
        rw [hxs] at RW D1 DL
        clear ha hL hxs hrow hmc hnil hm63
        go_wp2_with (at_builtin; go_loud (refine app_law_at bytesOk rfl _ _ rfl w.heap.size (.slice ab m cb) m (by8 (cat (ps.take k))) rfl O.out ad L cd xs rfl NL.out MC.out RW.out (by rw [DL.out, Nat.mul_one]) D1.out (by have := LL.out; omega) (by have := LL.out; omega) BW.out.size ?_; intro v' w1 hown hgrow _; have O2 := Lib.hid hown; have B2 := Lib.hid (BW.out.grown hgrow BW.out.size (fun j hj => (O.out.lt j hj).1)); clear hown hgrow))
        go_roundw
        case rel => exact ⟨k + 1, by omega, by go_num, by rw [TM.out, by8_append, List.length_append, HM.out, HLL.out, HXS.out]; exact O2.out, HC2, B2.out⟩
        case measure => simp [intOf]; omega
      · have ha2 : ((p.at_ : Int) != (m : Int)) = true := by simp; omega
        have HE := Lib.hid (show T = strOf [] by
          rw [← HT.out]
          have := CS.out (by rw [CM.out]; simp [ha])
          unfold nm; rw [this]; rfl)
        clear ha
        go_wp2
        go_ret
        exact ⟨by rw [HE.out]; rfl, BW.out⟩
    · obtain rfl : k = n := by omega
      have htk : ps.take k = ps := List.take_of_length_le (by rw [HN.out]; omega)
      rw [htk] at O HC HM
      by_cases g12 : 12 ≤ m
      · have BV : BytesV wr (.slice ab m cb) (cat ps) := by
          have h := O.out
          rw [← HM.out] at h ⊢
          exact BytesV.of_own h
        obtain ⟨b, hb⟩ : ∃ b, cat ps = b := ⟨_, rfl⟩
        have HCB := Lib.hid hb
        rw [hb] at BV O HM
        have hm := HM.out
        obtain ⟨u4, h4, r4, -⟩ := BytesV.cut (P := Tryz.prog) (T := 42) (E := 5) Tryz.underlying42 (by kernel_rfl) BV 8 12 (by decide) (by omega)
        obtain ⟨u8, h8, -, r8⟩ := BytesV.cut (P := Tryz.prog) (T := 42) (E := 5) Tryz.underlying42 (by kernel_rfl) BV 0 8 (by decide) (by omega)
        have r8 := r8 rfl
        have r4 : ∀ w', (Instr.slice 42 (.slice ab m cb) (some (.int .i64 8)) (some (.int .i64 12)) none).run Tryz.prog w' = .ok u4 w' := r4
        have r8 : ∀ w', (Instr.slice 42 (.slice ab m cb) none (some (.int .i64 8)) none).run Tryz.prog w' = .ok u8 w' := r8
        rw [List.drop_zero] at h8
        have U4 := Lib.hid h4; have U8 := Lib.hid h8
        have HG := Lib.hid (show Wire.getE ((b.take 12).drop 8) = 0 by unfold Wire.getE; rw [if_neg]; simp; omega)
        obtain ⟨x, hx⟩ : ∃ x, rd4 b = x := ⟨_, rfl⟩
        have HX := Lib.hid (show Wire.getV ((b.take 12).drop 8) = x by unfold Wire.getV; rw [HG.out]; exact hx)
        have hcmp := u64_ne x m (by have := hm6.out; omega)
        obtain ⟨bx, hbx⟩ : ∃ z, decide (uv x = (m : Int)) = z := ⟨_, rfl⟩
        rw [hbx] at hcmp
        have HI := Lib.hid (show imgIs b = (bx && (Wire.plain (b.take 8) && revOk (Wire.rstrip (b.take 8)))) by unfold imgIs; rw [hm, decide_eq_true g12, Bool.true_and, Bool.and_assoc, hx, hbx])
        obtain ⟨bp, hbp⟩ : ∃ z, Wire.plain (b.take 8) = z := ⟨_, rfl⟩
        have hT8 : (b.take 8).length ≤ 8 := by rw [List.length_take]; omega
        have TXT := Lib.hid (fun u w h => rText_at u (b.take 8) (if bp then Wire.rstrip (b.take 8) else []) (if bp then 0 else 2) w h (by omega) (by unfold Wire.textE; rw [hbp]) (by unfold Wire.text; rw [hbp]))
        obtain ⟨rb, hrb⟩ : ∃ z, revOk (Wire.rstrip (b.take 8)) = z := ⟨_, rfl⟩
        rw [hbp, hrb] at HI
        have REV := Lib.hid (fun w => rRevision_at (Wire.rstrip (b.take 8)) rb w (by have := rstrip_le (b.take 8); omega) hrb)
        have HNM := Lib.hid (show T = strOf (if bx && (bp && rb) then Wire.rstrip (b.take 8) else []) by
          rw [← HT.out]; unfold nm; rw [HC.out, HCB.out, HI.out, Bool.true_and])
        obtain ⟨X, hX⟩ : ∃ z, uv x = z := ⟨_, rfl⟩
        obtain ⟨M, hM⟩ : ∃ z, BitVec.ofNat 64 m = z := ⟨_, rfl⟩
        obtain ⟨R, hR⟩ : ∃ z, Wire.rstrip (b.take 8) = z := ⟨_, rfl⟩
        rw [hR] at TXT REV HNM
        clear hx hbx hbp hrb hT8 hb hm h4 h8 BV hX hM hR htk
        obtain ⟨aw, nw, cw, hsw⟩ : ∃ a n c, u4 = .slice a n c := by obtain ⟨a, c, h, _⟩ := id U4.out; exact ⟨_, _, _, h⟩
        subst hsw
        obtain ⟨ax, nx, cx, hsx⟩ : ∃ a n c, u8 = .slice a n c := by obtain ⟨a, c, h, _⟩ := id U8.out; exact ⟨_, _, _, h⟩
        subst hsx
        clear O
        cases bx
        · cases bp
          · go_wp2_with (first | (go_at_call 78; go_loud (refine (rGet_at _ _ x 0 _ U4.out HX.out HG.out).mono ?_; rintro e w3 ⟨rfl, rfl⟩)) | (go_at_call 79; go_loud (refine (TXT.out _ _ U8.out).mono ?_; rintro e w4 ⟨rfl, rfl⟩)))
            go_ret
            exact ⟨by rw [HNM.out]; rfl, BW.out⟩
          · go_wp2_with (first | (go_at_call 78; go_loud (refine (rGet_at _ _ x 0 _ U4.out HX.out HG.out).mono ?_; rintro e w3 ⟨rfl, rfl⟩)) | (go_at_call 79; go_loud (refine (TXT.out _ _ U8.out).mono ?_; rintro e w4 ⟨rfl, rfl⟩)))
            go_ret
            exact ⟨by rw [HNM.out]; rfl, BW.out⟩
        · cases bp
          · go_wp2_with (first | (go_at_call 78; go_loud (refine (rGet_at _ _ x 0 _ U4.out HX.out HG.out).mono ?_; rintro e w3 ⟨rfl, rfl⟩)) | (go_at_call 79; go_loud (refine (TXT.out _ _ U8.out).mono ?_; rintro e w4 ⟨rfl, rfl⟩)))
            go_ret
            exact ⟨by rw [HNM.out]; rfl, BW.out⟩
          · cases rb
            · go_wp2_with (first | (go_at_call 78; go_loud (refine (rGet_at _ _ x 0 _ U4.out HX.out HG.out).mono ?_; rintro e w3 ⟨rfl, rfl⟩)) | (go_at_call 79; go_loud (refine (TXT.out _ _ U8.out).mono ?_; rintro e w4 ⟨rfl, rfl⟩)) | (go_at_call 29; go_loud (refine (REV.out _).mono ?_; rintro e w5 ⟨rfl, hb⟩; have B5 := Lib.hid (gr_tr BW.out hb); clear hb)))
              go_ret
              exact ⟨by rw [HNM.out]; rfl, B5.out⟩
            · go_wp2_with (first | (go_at_call 78; go_loud (refine (rGet_at _ _ x 0 _ U4.out HX.out HG.out).mono ?_; rintro e w3 ⟨rfl, rfl⟩)) | (go_at_call 79; go_loud (refine (TXT.out _ _ U8.out).mono ?_; rintro e w4 ⟨rfl, rfl⟩)) | (go_at_call 29; go_loud (refine (REV.out _).mono ?_; rintro e w5 ⟨rfl, hb⟩; have B5 := Lib.hid (gr_tr BW.out hb); clear hb)))
              go_ret
              exact ⟨by rw [HNM.out]; rfl, B5.out⟩
      · have HE := Lib.hid (show T = strOf [] by
          rw [← HT.out]; unfold nm
          rw [imgIs_short (b := cat ps) (by rw [HM.out]; omega), Bool.and_false]; rfl)
        clear htk
        go_wp2
        go_ret
        exact ⟨by rw [HE.out]; rfl, BW.out⟩
end Go.Proofs.YtabfmhlhdebcpaaGreatDoor
namespace Go.Proofs.YtabfmhlhdebcpaaGreatDoor
open Go.RowKit Fw
set_option linter.unusedVariables false
set_option linter.unusedSimpArgs false
attribute [local go_sem] Oper.semAt_some
/-- What the reference's functions return: a state, a code. -/
def RCPost (x' : St) (n : Int) (dvs : List Value) (w : World) (e : Ending) (w' : World) : Prop :=
  ∃ lv' dvs', e = .returned (.tuple #[.agg (x'.cells lv').toArray, .int .i64 n]) ∧ PcsAt 67 w' x'.ps lv' dvs' ∧ (dvs' = dvs ∨ dvs' = []) ∧ Below w.heap.size w w'
theorem Fw.PcsAt.rf2 {w W W' : World} {x y : St} {lv lv2 : Value} {ps : List Pc} {dvs : List Value} (h : PcsAt 67 w ps lv dvs) (S : Rf2 w W y lv2) (hc : Chg (fun k => k = w.heap.size + 1) W W') : PcsAt 67 W' ps lv dvs :=
  h.below (S.ret hc)
set_option maxRecDepth 20000 in
theorem rCommit_bad (x : St) (lv : Value) (dvs : List Value) (k a : Int) (w : World) (hok : Fw.Ok x) (hp : PcsAt 67 w x.ps lv dvs) (hno : a < 0 ∨ 3 < a) :
    Calls Tryz.prog 31 #[.agg (x.cells lv).toArray, .int .i64 k, .int .i64 a] w (RCPost (cmS x k a) (cmE x k a) dvs w) := by
  have HE := Lib.hid (show cmE x k a = 2 by unfold cmE; rw [if_pos hno])
  have HS := Lib.hid (show cmS x k a = x by unfold cmS; rw [if_pos hno])
  rw [HE.out, HS.out]
  obtain ⟨W, hW⟩ : ∃ W, W = (w.alloc (.cells (x.cells lv).toArray 37)).alloc (.cells #[.int .i64 0, .bool false, .string ⟨#[]⟩, .int .i64 0, .int .i64 0, .int .i64 0, .string ⟨#[]⟩, .string ⟨#[]⟩, .string ⟨#[]⟩, .string ⟨#[]⟩, .string ⟨#[]⟩, .string ⟨#[]⟩, .string ⟨#[]⟩, .slice none 0 0] 37) := ⟨_, rfl⟩
  have S0 := Lib.hid (show Rf2 w W x lv by rw [hW]; exact Rf2.new w x lv hok.len (own_one' hp.own))
  have HP := Lib.hid hp
  have HCS := Lib.hid (rfl : (x.cells lv).toArray = (x.cells lv).toArray)
  obtain ⟨cs, hcs⟩ : ∃ c, (x.cells lv).toArray = c := ⟨_, rfl⟩
  have HC := Lib.hid hcs
  rw [hcs] at hW ⊢
  have HW := Lib.hid hW
  clear hW hok hp hcs HCS
  have h1 : a < 0 ∨ (¬ a < 0 ∧ 3 < a) := by omega
  clear hno
  rcases h1 with h1 | ⟨h1, h2⟩
  all_goals
    (go_enter Tryz.func31, Tryz.ntmps31; go_upto_region 1 with fail; rw [← HW.out])
    rw [← HC.out]
    go_wp2_with (first | (refine wpList_load_row rfl 37 (.tmp 3) rfl w.heap.size rfl 37 (x.cells lv).toArray (0, 0) _ S0.out.blk Tryz.underlying37 rfl (by rw [S0.out.sz]; kernel_rfl) ?_) | (refine wpList_store_rowC rfl 37 (.tmp 6) (.tmp 16) rfl (w.heap.size + 1) (x.cells lv).toArray rfl rfl 37 _ S0.out.res (by rw [S0.out.sz]; kernel_rfl) (by rw [S0.out.sz]; rfl) S0.out.all ?_; intro w9 h9 hc; have X9 := Lib.hid h9; have C9 := Lib.hid hc; clear h9 hc))
    refine bodyPost_ret (results_row_tmp rfl _ _ (w.heap.size + 1) 37 _ (0, 0) _ rfl X9.out Tryz.underlying37 rfl (by rw [S0.out.sz]; kernel_rfl)) rfl ?_
    exact ⟨lv, dvs, rfl, HP.out.below (S0.out.ret C9.out), .inl rfl, S0.out.ret C9.out⟩
set_option maxRecDepth 20000 in
set_option maxHeartbeats 3200000 in
theorem rCommit_act (x : St) (lv : Value) (dvs : List Value) (k a : Int) (w : World) (hok : Fw.Ok x) (hp : PcsAt 67 w x.ps lv dvs) (ha : a = 2 ∨ a = 3) :
    Calls Tryz.prog 31 #[.agg (x.cells lv).toArray, .int .i64 k, .int .i64 a] w (RCPost (cmS x k a) (cmE x k a) dvs w) := by
  obtain ⟨W, hW⟩ : ∃ W, W = (w.alloc (.cells (x.cells lv).toArray 37)).alloc (.cells #[.int .i64 0, .bool false, .string ⟨#[]⟩, .int .i64 0, .int .i64 0, .int .i64 0, .string ⟨#[]⟩, .string ⟨#[]⟩, .string ⟨#[]⟩, .string ⟨#[]⟩, .string ⟨#[]⟩, .string ⟨#[]⟩, .string ⟨#[]⟩, .slice none 0 0] 37) := ⟨_, rfl⟩
  have S0 := Lib.hid (show Rf2 w W x lv by rw [hW]; exact Rf2.new w x lv hok.len (own_one' hp.own))
  have HP := Lib.hid hp
  have c0 := S0.out.blk.cn
  have c4 := S0.out.blk.cact
  have c5 := S0.out.blk.cnxt
  have z4 := S0.out.blk.fz 4
  have z5 := S0.out.blk.fz 5
  have S2 := Lib.hid (S0.out.setnxt k)
  have S3 := Lib.hid ((S0.out.setact k).setnxt 0)
  obtain ⟨x2, hx2⟩ : ∃ z : St, { x with s := { x.s with nxt := k } } = z := ⟨_, rfl⟩
  obtain ⟨x3, hx3⟩ : ∃ z : St, { x with s := { x.s with act := k, nxt := 0 } } = z := ⟨_, rfl⟩
  have S3 : Hid (Rf2 w ((W.setCell ⟨w.heap.size, 4, none⟩ (.int .i64 k)).setCell ⟨w.heap.size, 5, none⟩ (.int .i64 0)) { x with s := { x.s with act := k, nxt := 0 } } lv) := S3
  rw [hx2] at S2
  rw [hx3] at S3
  have PS2 := Lib.hid (show x2.ps = x.ps by rw [← hx2])
  have PS3 := Lib.hid (show x3.ps = x.ps by rw [← hx3])
  have hb : (fl x k = true ∧ cmE x k a = 0 ∧ cmS x k a = (if a = 2 then x2 else x3)) ∨ (fl x k = false ∧ cmE x k a = 262 ∧ cmS x k a = x) := by
    rw [← hx2, ← hx3]
    rcases ha with rfl | rfl
    · rw [cmE_2, cmS_2]; cases fl x k <;> simp
    · rw [cmE_3, cmS_3]; cases fl x k <;> simp
  clear hx2 hx3
  have hn7 := (cfgOk_is hok.cfg).2.1
  have hl7 := hok.len
  obtain ⟨cs, hcs⟩ : ∃ c, (x.cells lv).toArray = c := ⟨_, rfl⟩
  have HC := Lib.hid hcs
  rw [hcs] at hW ⊢
  have HW := Lib.hid hW
  clear hW hok hp hcs
  by_cases g1 : 1 ≤ k
  · by_cases g2 : k ≤ x.c.n
    · obtain ⟨j, rfl⟩ : ∃ j : Nat, k = (j : Int) + 1 := ⟨(k - 1).toNat, by omega⟩
      have hj : j < 7 := by omega
      obtain ⟨r, hr⟩ : ∃ r, x.s.revs[j]? = some r := ⟨_, List.getElem?_eq_getElem (by omega)⟩
      have c6 := S0.out.blk.crev j r hr
      have hrev : revAt x ((j : Int) + 1) = r := by
        unfold revAt
        rw [show ((j : Int) + 1 - 1).toNat = j by omega, List.getD_eq_getElem?_getD, hr]; rfl
      have hflx : fl x ((j : Int) + 1) = !(r == []) := by unfold fl; rw [hrev, decide_eq_true g1, decide_eq_true g2]; simp
      rw [hflx] at hb
      have hemp := strOf_empty r
      obtain ⟨z, hz⟩ : ∃ z, (r == []) = z := ⟨_, rfl⟩
      rw [hz] at hb hemp
      obtain ⟨st, hst⟩ : ∃ s, strOf r = s := ⟨_, rfl⟩
      rw [hst] at c6 hemp
      obtain ⟨n, hn⟩ : ∃ n, x.c.n = n := ⟨_, rfl⟩
      rw [hn] at c0 g2 hn7
      clear hz hst hrev hr hn hl7 hflx
      cases z
      · obtain ⟨-, hE, hS⟩ : true = true ∧ _ ∧ _ := by rcases hb with h | h; exact h; exact absurd h.1 (by decide)
        have HE := Lib.hid hE
        clear hb hE
        rcases ha with rfl | rfl
        · have HS := Lib.hid (hS.trans (if_pos rfl))
          clear hS
          rw [HE.out, HS.out]
          obtain ⟨V, hV⟩ : ∃ z, z = W.setCell ⟨w.heap.size, 5, none⟩ (.int .i64 ((j : Int) + 1)) := ⟨_, rfl⟩
          rw [← hV] at S2
          have HV := Lib.hid hV
          clear hV S3 PS3
          (go_enter Tryz.func31, Tryz.ntmps31; go_upto_region 1 with fail; rw [← HW.out])
          go_upto_region 9 with fail
          rw [← HV.out]
          go_wp2_with (first | (refine wpList_load_row rfl 37 (.tmp 3) rfl w.heap.size rfl 37 (x2.cells lv).toArray (0, 0) _ S2.out.blk Tryz.underlying37 rfl (by rw [S2.out.sz]; kernel_rfl) ?_) | (refine wpList_store_rowC rfl 37 (.tmp 6) (.tmp 48) rfl (w.heap.size + 1) (x2.cells lv).toArray rfl rfl 37 _ S2.out.res (by rw [S2.out.sz]; kernel_rfl) (by rw [S2.out.sz]; rfl) S2.out.all ?_; intro w9 h9 hc; have X9 := Lib.hid h9; have C9 := Lib.hid hc; clear h9 hc))
          refine bodyPost_ret (results_row_tmp rfl _ _ (w.heap.size + 1) 37 _ (0, 0) _ rfl X9.out Tryz.underlying37 rfl (by rw [S2.out.sz]; kernel_rfl)) rfl ?_
          exact ⟨lv, dvs, rfl, by rw [PS2.out]; exact HP.out.below (S2.out.ret C9.out), .inl rfl, S2.out.ret C9.out⟩
        · have HS := Lib.hid (hS.trans (if_neg (by decide)))
          clear hS
          rw [HE.out, HS.out]
          obtain ⟨V, hV⟩ : ∃ z, z = (W.setCell ⟨w.heap.size, 4, none⟩ (.int .i64 ((j : Int) + 1))).setCell ⟨w.heap.size, 5, none⟩ (.int .i64 0) := ⟨_, rfl⟩
          rw [← hV] at S3
          have HV := Lib.hid hV
          clear hV S2 PS2
          (go_enter Tryz.func31, Tryz.ntmps31; go_upto_region 1 with fail; rw [← HW.out])
          go_upto_region 9 with fail
          rw [← HV.out]
          go_wp2_with (first | (refine wpList_load_row rfl 37 (.tmp 3) rfl w.heap.size rfl 37 (x3.cells lv).toArray (0, 0) _ S3.out.blk Tryz.underlying37 rfl (by rw [S3.out.sz]; kernel_rfl) ?_) | (refine wpList_store_rowC rfl 37 (.tmp 6) (.tmp 48) rfl (w.heap.size + 1) (x3.cells lv).toArray rfl rfl 37 _ S3.out.res (by rw [S3.out.sz]; kernel_rfl) (by rw [S3.out.sz]; rfl) S3.out.all ?_; intro w9 h9 hc; have X9 := Lib.hid h9; have C9 := Lib.hid hc; clear h9 hc))
          refine bodyPost_ret (results_row_tmp rfl _ _ (w.heap.size + 1) 37 _ (0, 0) _ rfl X9.out Tryz.underlying37 rfl (by rw [S3.out.sz]; kernel_rfl)) rfl ?_
          exact ⟨lv, dvs, rfl, by rw [PS3.out]; exact HP.out.below (S3.out.ret C9.out), .inl rfl, S3.out.ret C9.out⟩
      · obtain ⟨-, hE, hS⟩ : false = false ∧ _ ∧ _ := by rcases hb with h | h; exact absurd h.1 (by decide); exact h
        rw [hE, hS]
        clear hb hE hS S2 S3
        rcases ha with rfl | rfl
        · (go_enter Tryz.func31, Tryz.ntmps31; go_upto_region 1 with fail; rw [← HW.out])
          (go_wp2_with (first | (refine wpList_load_row rfl 37 (.tmp 3) rfl w.heap.size rfl 37 (x.cells lv).toArray (0, 0) _ S0.out.blk Tryz.underlying37 rfl (by rw [S0.out.sz]; kernel_rfl) ?_) | (refine wpList_store_rowC rfl 37 (.tmp 6) (.tmp 37) rfl (w.heap.size + 1) (x.cells lv).toArray rfl rfl 37 _ S0.out.res (by rw [S0.out.sz]; kernel_rfl) (by rw [S0.out.sz]; rfl) S0.out.all ?_; intro w9 h9 hc; have X9 := Lib.hid h9; have C9 := Lib.hid hc; clear h9 hc)); refine bodyPost_ret (results_row_tmp rfl _ _ (w.heap.size + 1) 37 _ (0, 0) _ rfl X9.out Tryz.underlying37 rfl (by rw [S0.out.sz]; kernel_rfl)) rfl ?_; exact ⟨lv, dvs, rfl, HP.out.below (S0.out.ret C9.out), .inl rfl, S0.out.ret C9.out⟩)
        · (go_enter Tryz.func31, Tryz.ntmps31; go_upto_region 1 with fail; rw [← HW.out])
          (go_wp2_with (first | (refine wpList_load_row rfl 37 (.tmp 3) rfl w.heap.size rfl 37 (x.cells lv).toArray (0, 0) _ S0.out.blk Tryz.underlying37 rfl (by rw [S0.out.sz]; kernel_rfl) ?_) | (refine wpList_store_rowC rfl 37 (.tmp 6) (.tmp 37) rfl (w.heap.size + 1) (x.cells lv).toArray rfl rfl 37 _ S0.out.res (by rw [S0.out.sz]; kernel_rfl) (by rw [S0.out.sz]; rfl) S0.out.all ?_; intro w9 h9 hc; have X9 := Lib.hid h9; have C9 := Lib.hid hc; clear h9 hc)); refine bodyPost_ret (results_row_tmp rfl _ _ (w.heap.size + 1) 37 _ (0, 0) _ rfl X9.out Tryz.underlying37 rfl (by rw [S0.out.sz]; kernel_rfl)) rfl ?_; exact ⟨lv, dvs, rfl, HP.out.below (S0.out.ret C9.out), .inl rfl, S0.out.ret C9.out⟩)
    · obtain ⟨-, hE, hS⟩ : fl x k = false ∧ _ ∧ _ := by
        rcases hb with h | h
        · exact absurd (fl_is h.1).2.1 g2
        · exact h
      rw [hE, hS]
      obtain ⟨n, hn⟩ : ∃ n, x.c.n = n := ⟨_, rfl⟩
      rw [hn] at c0 g2 hn7
      clear hb hE hS hn hl7 S2 S3
      rcases ha with rfl | rfl
      · (go_enter Tryz.func31, Tryz.ntmps31; go_upto_region 1 with fail; rw [← HW.out])
        (go_wp2_with (first | (refine wpList_load_row rfl 37 (.tmp 3) rfl w.heap.size rfl 37 (x.cells lv).toArray (0, 0) _ S0.out.blk Tryz.underlying37 rfl (by rw [S0.out.sz]; kernel_rfl) ?_) | (refine wpList_store_rowC rfl 37 (.tmp 6) (.tmp 37) rfl (w.heap.size + 1) (x.cells lv).toArray rfl rfl 37 _ S0.out.res (by rw [S0.out.sz]; kernel_rfl) (by rw [S0.out.sz]; rfl) S0.out.all ?_; intro w9 h9 hc; have X9 := Lib.hid h9; have C9 := Lib.hid hc; clear h9 hc)); refine bodyPost_ret (results_row_tmp rfl _ _ (w.heap.size + 1) 37 _ (0, 0) _ rfl X9.out Tryz.underlying37 rfl (by rw [S0.out.sz]; kernel_rfl)) rfl ?_; exact ⟨lv, dvs, rfl, HP.out.below (S0.out.ret C9.out), .inl rfl, S0.out.ret C9.out⟩)
      · (go_enter Tryz.func31, Tryz.ntmps31; go_upto_region 1 with fail; rw [← HW.out])
        (go_wp2_with (first | (refine wpList_load_row rfl 37 (.tmp 3) rfl w.heap.size rfl 37 (x.cells lv).toArray (0, 0) _ S0.out.blk Tryz.underlying37 rfl (by rw [S0.out.sz]; kernel_rfl) ?_) | (refine wpList_store_rowC rfl 37 (.tmp 6) (.tmp 37) rfl (w.heap.size + 1) (x.cells lv).toArray rfl rfl 37 _ S0.out.res (by rw [S0.out.sz]; kernel_rfl) (by rw [S0.out.sz]; rfl) S0.out.all ?_; intro w9 h9 hc; have X9 := Lib.hid h9; have C9 := Lib.hid hc; clear h9 hc)); refine bodyPost_ret (results_row_tmp rfl _ _ (w.heap.size + 1) 37 _ (0, 0) _ rfl X9.out Tryz.underlying37 rfl (by rw [S0.out.sz]; kernel_rfl)) rfl ?_; exact ⟨lv, dvs, rfl, HP.out.below (S0.out.ret C9.out), .inl rfl, S0.out.ret C9.out⟩)
  · obtain ⟨-, hE, hS⟩ : fl x k = false ∧ _ ∧ _ := by
      rcases hb with h | h
      · exact absurd (fl_is h.1).1 g1
      · exact h
    rw [hE, hS]
    clear hb hE hS hl7 S2 S3
    rcases ha with rfl | rfl
    · (go_enter Tryz.func31, Tryz.ntmps31; go_upto_region 1 with fail; rw [← HW.out])
      (go_wp2_with (first | (refine wpList_load_row rfl 37 (.tmp 3) rfl w.heap.size rfl 37 (x.cells lv).toArray (0, 0) _ S0.out.blk Tryz.underlying37 rfl (by rw [S0.out.sz]; kernel_rfl) ?_) | (refine wpList_store_rowC rfl 37 (.tmp 6) (.tmp 37) rfl (w.heap.size + 1) (x.cells lv).toArray rfl rfl 37 _ S0.out.res (by rw [S0.out.sz]; kernel_rfl) (by rw [S0.out.sz]; rfl) S0.out.all ?_; intro w9 h9 hc; have X9 := Lib.hid h9; have C9 := Lib.hid hc; clear h9 hc)); refine bodyPost_ret (results_row_tmp rfl _ _ (w.heap.size + 1) 37 _ (0, 0) _ rfl X9.out Tryz.underlying37 rfl (by rw [S0.out.sz]; kernel_rfl)) rfl ?_; exact ⟨lv, dvs, rfl, HP.out.below (S0.out.ret C9.out), .inl rfl, S0.out.ret C9.out⟩)
    · (go_enter Tryz.func31, Tryz.ntmps31; go_upto_region 1 with fail; rw [← HW.out])
      (go_wp2_with (first | (refine wpList_load_row rfl 37 (.tmp 3) rfl w.heap.size rfl 37 (x.cells lv).toArray (0, 0) _ S0.out.blk Tryz.underlying37 rfl (by rw [S0.out.sz]; kernel_rfl) ?_) | (refine wpList_store_rowC rfl 37 (.tmp 6) (.tmp 37) rfl (w.heap.size + 1) (x.cells lv).toArray rfl rfl 37 _ S0.out.res (by rw [S0.out.sz]; kernel_rfl) (by rw [S0.out.sz]; rfl) S0.out.all ?_; intro w9 h9 hc; have X9 := Lib.hid h9; have C9 := Lib.hid hc; clear h9 hc)); refine bodyPost_ret (results_row_tmp rfl _ _ (w.heap.size + 1) 37 _ (0, 0) _ rfl X9.out Tryz.underlying37 rfl (by rw [S0.out.sz]; kernel_rfl)) rfl ?_; exact ⟨lv, dvs, rfl, HP.out.below (S0.out.ret C9.out), .inl rfl, S0.out.ret C9.out⟩)
end Go.Proofs.YtabfmhlhdebcpaaGreatDoor
namespace Go.Proofs.YtabfmhlhdebcpaaGreatDoor
open Go.RowKit Fw
set_option linter.unusedVariables false
set_option linter.unusedSimpArgs false
attribute [local go_sem] Oper.semAt_some
namespace Fw
theorem lowr_no {x : St} {j : Nat} (h : lowr x ((j : Int) + 1) = false) : ∀ i : Nat, i < j → wr x ((i : Int) + 1) = false := by
  intro i hi
  unfold lowr at h
  rw [List.any_eq_false] at h
  have := h i (List.mem_range.2 (by omega))
  simpa using this
theorem low_is {x : St} {j : Nat} (hj : j < 7) (h1 : wr x ((j : Int) + 1) = true) (h2 : lowr x ((j : Int) + 1) = false) : low x = (j : Int) + 1 :=
  low_at hj (lowr_no h2) h1
theorem low_none {x : St} (hn : x.c.n ≤ 7) (h : ∀ i : Nat, (i : Int) + 1 ≤ x.c.n → ¬ (wr x ((i : Int) + 1) = true ∧ lowr x ((i : Int) + 1) = false)) : low x = 0 := by
  have key : ∀ m i : Nat, i < m → wr x ((i : Int) + 1) = false := by
    intro m
    induction m with
    | zero => intro i hi; omega
    | succ m ih =>
      intro i hi
      by_cases he : i < m
      · exact ih i he
      · obtain rfl : i = m := by omega
        by_cases hin : (i : Int) + 1 ≤ x.c.n
        · by_cases hw : wr x ((i : Int) + 1) = true
          · refine absurd ⟨hw, ?_⟩ (h i hin)
            unfold lowr
            rw [List.any_eq_false]
            intro j hj
            have := List.mem_range.1 hj
            rw [ih j (by omega)]; decide
          · simpa using hw
        · exact wr_big (by omega)
  exact low_no (fun i hi => key 7 i hi)
/-- What Commit does with action 0 or 1 (the slot is picked). -/
theorem cm_no {x : St} {k a s : Int} (ha : a = 0 ∨ a = 1) (hp : pick x k = s) (hw : wr x s = false) : cmE x k a = 262 ∧ cmS x k a = x := by
  have h1 : stE x k = 262 := by unfold stE; rw [hp, hw]; rfl
  have h2 : stS x k = x := by unfold stS; rw [hp, hw]; rfl
  rcases ha with rfl | rfl
  · rw [cmE_0, cmS_0]; exact ⟨h1, h2⟩
  · rw [cmE_1]; refine ⟨h1, ?_⟩
    unfold cmS
    rw [if_neg (by decide), if_neg (by decide), if_neg (by decide), if_neg (fun h => by rw [h1] at h; exact absurd h.2 (by decide)), h2]
theorem cm_bad {x : St} {k a s : Int} (ha : a = 0 ∨ a = 1) (hp : pick x k = s) (hw : wr x s = true) (hn : nm x.ps = []) : cmE x k a = 263 ∧ cmS x k a = { x with ps := [] } := by
  have h1 : stE x k = 263 := by unfold stE; rw [hp, hw, hn]; rfl
  have h2 : stS x k = { x with ps := [] } := by unfold stS; rw [hp, hw, hn]; rfl
  rcases ha with rfl | rfl
  · rw [cmE_0, cmS_0]; exact ⟨h1, h2⟩
  · rw [cmE_1]; refine ⟨h1, ?_⟩
    unfold cmS
    rw [if_neg (by decide), if_neg (by decide), if_neg (by decide), if_neg (fun h => by rw [h1] at h; exact absurd h.2 (by decide)), h2]
theorem cm_ok0 {x : St} {k s : Int} (hp : pick x k = s) (hw : wr x s = true) (hn : nm x.ps ≠ []) : cmE x k 0 = 0 ∧ cmS x k 0 = { x with ps := [], s := { x.s with revs := x.s.revs.set (s - 1).toNat (nm x.ps) } } := by
  rw [cmE_0, cmS_0]
  exact ⟨by unfold stE; rw [hp, hw, if_pos rfl, if_neg hn], by unfold stS; rw [hp, hw, if_pos rfl, if_neg hn]⟩
theorem cm_ok1 {x : St} {k s : Int} (hp : pick x k = s) (hw : wr x s = true) (hn : nm x.ps ≠ []) : cmE x k 1 = 0 ∧ cmS x k 1 = { x with ps := [], s := { x.s with revs := x.s.revs.set (s - 1).toNat (nm x.ps), nxt := s } } := by
  have h1 : stE x k = 0 := by unfold stE; rw [hp, hw, if_pos rfl, if_neg hn]
  have h2 : stS x k = { x with ps := [], s := { x.s with revs := x.s.revs.set (s - 1).toNat (nm x.ps) } } := by unfold stS; rw [hp, hw, if_pos rfl, if_neg hn]
  rw [cmE_1]
  refine ⟨h1, ?_⟩
  unfold cmS
  rw [if_neg (by decide), if_neg (by decide), if_neg (by decide), if_pos ⟨rfl, h1⟩, h2, hp]
end Fw
set_option maxRecDepth 20000 in
set_option maxHeartbeats 6400000 in
theorem rCommit_store (x : St) (lv : Value) (dvs : List Value) (k a : Int) (w : World) (hok : Fw.Ok x) (hp : PcsAt 67 w x.ps lv dvs) (hk : I64 k) (ha : a = 0 ∨ a = 1) :
    Calls Tryz.prog 31 #[.agg (x.cells lv).toArray, .int .i64 k, .int .i64 a] w (RCPost (cmS x k a) (cmE x k a) dvs w) := by
  obtain ⟨W, hW⟩ : ∃ W, W = (w.alloc (.cells (x.cells lv).toArray 37)).alloc (.cells #[.int .i64 0, .bool false, .string ⟨#[]⟩, .int .i64 0, .int .i64 0, .int .i64 0, .string ⟨#[]⟩, .string ⟨#[]⟩, .string ⟨#[]⟩, .string ⟨#[]⟩, .string ⟨#[]⟩, .string ⟨#[]⟩, .string ⟨#[]⟩, .slice none 0 0] 37) := ⟨_, rfl⟩
  have S0 := Lib.hid (show Rf2 w W x lv by rw [hW]; exact Rf2.new w x lv hok.len (own_one' hp.own))
  have HP := Lib.hid hp
  have HL := Lib.hid hok.len
  have SUM := Lib.hid hok.sum
  have c0 := S0.out.blk.cn
  have hn7 := (cfgOk_is hok.cfg).2.1
  have hn1 := (cfgOk_is hok.cfg).1
  have N7 := Lib.hid hn7
  obtain ⟨cs, hcs⟩ : ∃ c, (x.cells lv).toArray = c := ⟨_, rfl⟩
  have HC := Lib.hid hcs
  rw [hcs] at hW ⊢
  have HW := Lib.hid hW
  obtain ⟨n, hn⟩ : ∃ n, x.c.n = n := ⟨_, rfl⟩
  have HN := Lib.hid hn
  rw [hn] at c0 hn7 hn1
  have ha0 : ¬ a < 0 := by omega
  have ha3 : ¬ 3 < a := by omega
  have ha1 : ¬ 1 < a := by omega
  have HA := Lib.hid ha
  obtain ⟨hk1, hk2⟩ := hk
  clear hW hok hp hcs hn ha
  (go_enter Tryz.func31, Tryz.ntmps31; go_upto_region 1 with fail; rw [← HW.out])
  go_wp2
  go_loopw [1, 8] (fun s j wr' => ∃ (sl : Int) (jj : Nat), s = .int .i64 sl ∧ j = .int .i64 jj ∧ (jj : Int) ≤ n ∧ ((sl = k ∧ Hid (k = 0 → ∀ i : Nat, jj ≤ i → (i : Int) + 1 ≤ n → ¬ (Fw.wr x ((i : Int) + 1) = true ∧ lowr x ((i : Int) + 1) = false))) ∨ (k = 0 ∧ sl = low x ∧ 1 ≤ sl ∧ sl ≤ 7)) ∧ Rf2 w wr' x lv) (fun s j _ => (intOf j).toNat)
  case atStart => exact ⟨k, n.toNat, rfl, by rw [show ((n.toNat : Nat) : Int) = n by omega], by omega, .inl ⟨rfl, Lib.hid fun _ i h1 h2 => by omega⟩, S0.out⟩
  case round =>
    obtain ⟨sl, jj, rfl, rfl, hjn, hcase, hS⟩ := hrel
    have S1 := Lib.hid hS
    clear hS
    by_cases hc : 1 ≤ jj ∧ sl ≤ 0
    · obtain ⟨hj1, hs0⟩ := hc
      obtain ⟨rfl, HNo⟩ : sl = k ∧ _ := by
        rcases hcase with h | h
        · exact h
        · exact absurd h.2.2.1 (by omega)
      obtain ⟨i, rfl⟩ : ∃ i : Nat, jj = i + 1 := ⟨jj - 1, by omega⟩
      have hi7 := Lib.hid (show i < 7 by omega)
      have d1 : (1 : Int) ≤ ((i + 1 : Nat) : Int) := by omega
      have hi8 : (i : Int) + 1 ≤ 7 := by omega
      clear hcase hj1
      by_cases hk0 : sl = 0
      · subst hk0
        cases hwr : Fw.wr x ((i : Int) + 1)
        · have HR := Lib.hid hwr
          clear hwr
          go_wp2_with (first
            | (refine wpList_load_rowG (by rfl) 37 (.tmp 3) rfl w.heap.size rfl 37 (x.cells lv).toArray (0, 0) _ S1.out.blk Tryz.underlying37 rfl (by rw [S1.out.sz]; kernel_rfl) ?_)
            | (go_at_call 55; go_loud (refine (rwr_at x lv _ false _ HR.out).mono ?_; rintro e w3 ⟨rfl, hb⟩; have B3 := Lib.hid hb; have S3 := Lib.hid (S1.out.below hb); clear hb)))
          go_roundw
          case rel => exact ⟨0, i, rfl, by go_num, by omega, .inl ⟨rfl, Lib.hid fun h i2 h1 h2 => by
            by_cases he : i2 = i
            · subst he; rw [HR.out]; exact fun h => absurd h.1 (by decide)
            · exact HNo.out h i2 (by omega) h2⟩, S3.out⟩
          case measure => simp [intOf]
        · have HR := Lib.hid hwr
          clear hwr
          cases hlo : lowr x ((i : Int) + 1)
          · have HLO := Lib.hid hlo
            have LI := Lib.hid (low_is hi7.out HR.out hlo)
            clear hlo
            go_wp2_with (first
              | (refine wpList_load_rowG (by rfl) 37 (.tmp 3) rfl w.heap.size rfl 37 (x.cells lv).toArray (0, 0) _ S1.out.blk Tryz.underlying37 rfl (by rw [S1.out.sz]; kernel_rfl) ?_)
              | (go_at_call 55; go_loud (refine (rwr_at x lv _ true _ HR.out).mono ?_; rintro e w3 ⟨rfl, hb⟩; have B3 := Lib.hid hb; have S3 := Lib.hid (S1.out.below hb); clear hb))
              | (refine wpList_load_rowG (by rfl) 37 (.tmp 3) rfl w.heap.size rfl 37 (x.cells lv).toArray (0, 0) _ S3.out.blk Tryz.underlying37 rfl (by rw [S3.out.sz]; kernel_rfl) ?_)
              | (go_at_call 56; go_loud (refine (rlower_at x lv _ false _ HL.out (by omega) (by omega) HLO.out).mono ?_; rintro e w4 ⟨rfl, hb⟩; have B4 := Lib.hid (gr_tr B3.out hb); have S4 := Lib.hid (S3.out.below hb); clear hb)))
            go_roundw
            case rel => exact ⟨(i : Int) + 1, i, by go_num, by go_num, by omega, .inr ⟨(by trivial), LI.out.symm, by omega, by omega⟩, S4.out⟩
            case measure => simp [intOf]
          · have HLO := Lib.hid hlo
            clear hlo
            go_wp2_with (first
              | (refine wpList_load_rowG (by rfl) 37 (.tmp 3) rfl w.heap.size rfl 37 (x.cells lv).toArray (0, 0) _ S1.out.blk Tryz.underlying37 rfl (by rw [S1.out.sz]; kernel_rfl) ?_)
              | (go_at_call 55; go_loud (refine (rwr_at x lv _ true _ HR.out).mono ?_; rintro e w3 ⟨rfl, hb⟩; have B3 := Lib.hid hb; have S3 := Lib.hid (S1.out.below hb); clear hb))
              | (refine wpList_load_rowG (by rfl) 37 (.tmp 3) rfl w.heap.size rfl 37 (x.cells lv).toArray (0, 0) _ S3.out.blk Tryz.underlying37 rfl (by rw [S3.out.sz]; kernel_rfl) ?_)
              | (go_at_call 56; go_loud (refine (rlower_at x lv _ true _ HL.out (by omega) (by omega) HLO.out).mono ?_; rintro e w4 ⟨rfl, hb⟩; have B4 := Lib.hid (gr_tr B3.out hb); have S4 := Lib.hid (S3.out.below hb); clear hb)))
            go_roundw
            case rel => exact ⟨0, i, rfl, by go_num, by omega, .inl ⟨rfl, Lib.hid fun h i2 h1 h2 => by
              by_cases he : i2 = i
              · subst he; rw [HLO.out]; exact fun h => absurd h.2 (by decide)
              · exact HNo.out h i2 (by omega) h2⟩, S4.out⟩
            case measure => simp [intOf]
      · have hk0' : (sl == 0) = false := by simpa using hk0
        go_wp2
        go_roundw
        case rel => exact ⟨sl, i, rfl, by go_num, by omega, .inl ⟨rfl, Lib.hid fun h => absurd h hk0⟩, S1.out⟩
        case measure => simp [intOf]
    · have HPK := Lib.hid (show pick x k = sl by
        unfold pick
        rcases hcase with ⟨rfl, h⟩ | ⟨rfl, h, h2⟩
        · split
          · rename_i h0
            subst h0
            exact low_none N7.out (fun i hi => h.out rfl i (by omega) (by rw [← HN.out]; exact hi))
          · rfl
        · rw [if_pos rfl, h])
      have hsl : -9223372036854775808 ≤ sl ∧ sl ≤ 9223372036854775807 := by rcases hcase with h | h <;> omega
      obtain ⟨hsl1, hsl2⟩ := hsl
      clear hcase
      by_cases hj1 : 1 ≤ jj
      · have hs1 : ¬ sl ≤ 0 := fun h => hc ⟨hj1, h⟩
        have hj2 : (1 : Int) ≤ (jj : Int) := by omega
        clear hc
        go_upto_region 15 with fail
        cases hwr : Fw.wr x sl
        · have HR := Lib.hid hwr
          obtain ⟨e1, e2⟩ := cm_no HA.out HPK.out hwr
          have E1 := Lib.hid e1; have E2 := Lib.hid e2
          clear hwr e1 e2
          go_wp2_with (first
            | (refine wpList_load_row rfl 37 (.tmp 3) rfl w.heap.size rfl 37 (x.cells lv).toArray (0, 0) _ S1.out.blk Tryz.underlying37 rfl (by rw [S1.out.sz]; kernel_rfl) ?_)
            | (go_at_call 55; go_loud (refine (rwr_at x lv _ false _ HR.out).mono ?_; rintro e w3 ⟨rfl, hb⟩; have B3 := Lib.hid hb; have S3 := Lib.hid (S1.out.below hb); clear hb))
            | (refine wpList_load_row rfl 37 (.tmp 3) rfl w.heap.size rfl 37 (x.cells lv).toArray (0, 0) _ S3.out.blk Tryz.underlying37 rfl (by rw [S3.out.sz]; kernel_rfl) ?_)
            | (refine wpList_store_rowC rfl 37 (.tmp 6) (.tmp 78) rfl (w.heap.size + 1) (x.cells lv).toArray rfl rfl 37 _ S3.out.res (by rw [S3.out.sz]; kernel_rfl) (by rw [S3.out.sz]; rfl) S3.out.all ?_; intro w9 h9 hc; have X9 := Lib.hid h9; have C9 := Lib.hid hc; clear h9 hc))
          (refine bodyPost_ret (results_row_tmp rfl _ _ (w.heap.size + 1) 37 _ (0, 0) _ rfl X9.out Tryz.underlying37 rfl (by rw [S3.out.sz]; kernel_rfl)) rfl ?_)
          rw [E1.out, E2.out]
          exact ⟨lv, dvs, rfl, HP.out.below (S3.out.ret C9.out), .inl rfl, S3.out.ret C9.out⟩
        · have HR := Lib.hid hwr
          obtain ⟨q1, q2, -, -⟩ := wr_is hwr
          obtain ⟨j, hjs⟩ : ∃ j : Nat, sl = (j : Int) + 1 := ⟨(sl - 1).toNat, by omega⟩
          subst hjs
          have hj7 : j < 7 := by have := N7.out; omega
          have HWR := Lib.hid hwr
          clear hwr q1 q2
          obtain ⟨T, hT⟩ : ∃ T, strOf (nm x.ps) = T := ⟨_, rfl⟩
          have HT := Lib.hid hT
          have hemp := strOf_empty (nm x.ps)
          rw [hT] at hemp
          obtain ⟨z, hz⟩ : ∃ z, (nm x.ps == []) = z := ⟨_, rfl⟩
          have HZ := Lib.hid hz
          rw [hz] at hemp
          clear hT hz
          go_upto_region 18 with (first
            | (refine wpList_load_row rfl 37 (.tmp 3) rfl w.heap.size rfl 37 (x.cells lv).toArray (0, 0) _ S1.out.blk Tryz.underlying37 rfl (by rw [S1.out.sz]; kernel_rfl) ?_)
            | (go_at_call 55; go_loud (refine (rwr_at x lv _ true _ HR.out).mono ?_; rintro e w3 ⟨rfl, hb⟩; have S3 := Lib.hid (S1.out.below hb); have d13 := S3.out.blk.cpc HL.out; clear hb))
            | (go_at_call 57; go_loud (refine (rname_at lv x.ps dvs _ (HP.out.below S3.out.bel) SUM.out.1 SUM.out.2).mono ?_; rintro e w5 ⟨rfl, hb⟩; rw [HT.out]; have S5 := Lib.hid (S3.out.below hb); have c13 := S5.out.blk.cpc HL.out; have z13 := S5.out.blk.fz 13; clear hb d13)))
          obtain ⟨W6, hW6⟩ : ∃ V, V = w5.setCell ⟨w.heap.size, 13, none⟩ (.slice none 0 0) := ⟨_, rfl⟩
          have S6 := Lib.hid (show Rf2 w W6 { x with ps := [] } (.slice none 0 0) by rw [hW6]; exact S5.out.setpcs _ _ rfl)
          have HW6 := Lib.hid hW6
          obtain ⟨x6, hx6⟩ : ∃ z : St, { x with ps := [] } = z := ⟨_, rfl⟩
          rw [hx6] at S6
          have HX6 := Lib.hid hx6
          clear hW6 hx6
          go_upto_region 19 with fail
          rw [← HW6.out]
          clear c13 z13
          cases z
          · have HNE := Lib.hid (show nm x.ps ≠ [] by have := HZ.out; simpa using this)
            obtain ⟨r, hr⟩ : ∃ r, x.s.revs[j]? = some r := ⟨_, List.getElem?_eq_getElem (by rw [HL.out]; exact hj7)⟩
            have c6 := S6.out.blk.crev j r (by rw [← HX6.out]; exact hr)
            have z6 := S6.out.blk.fz (6 + j)
            have S7a := S6.out.setrev j (nm x.ps) hj7
            rw [HT.out] at S7a
            obtain ⟨W7, hW7⟩ : ∃ V, V = W6.setCell ⟨w.heap.size, 6 + j, none⟩ (.string T) := ⟨_, rfl⟩
            rw [← hW7] at S7a
            have HW7 := Lib.hid hW7
            rcases HA.out with rfl | rfl
            · obtain ⟨e1, e2⟩ := cm_ok0 HPK.out HWR.out HNE.out
              have S7 := Lib.hid (show Rf2 w W7 (cmS x k 0) (.slice none 0 0) by rw [e2, show ((j : Int) + 1 - 1).toNat = j by omega]; rw [← HX6.out] at S7a; exact S7a)
              have PS := Lib.hid (show (cmS x k 0).ps = [] by rw [e2])
              have E1 := Lib.hid e1
              obtain ⟨x7, hx7⟩ : ∃ z : St, cmS x k 0 = z := ⟨_, rfl⟩
              have HX7 := Lib.hid hx7
              rw [hx7] at S7 PS
              clear hr hW7 S7a e1 e2 hx7
              go_upto_region 22 with fail
              rw [← HW7.out]
              clear c6 z6
              go_wp2_with (first
                | (refine wpList_load_row rfl 37 (.tmp 3) rfl w.heap.size rfl 37 (x7.cells (.slice none 0 0)).toArray (0, 0) _ S7.out.blk Tryz.underlying37 rfl (by rw [S7.out.sz]; kernel_rfl) ?_)
                | (refine wpList_store_rowC rfl 37 (.tmp 6) (.tmp 97) rfl (w.heap.size + 1) (x7.cells (.slice none 0 0)).toArray rfl rfl 37 _ S7.out.res (by rw [S7.out.sz]; kernel_rfl) (by rw [S7.out.sz]; rfl) S7.out.all ?_; intro w9 h9 hc; have X9 := Lib.hid h9; have C9 := Lib.hid hc; clear h9 hc))
              (refine bodyPost_ret (results_row_tmp rfl _ _ (w.heap.size + 1) 37 _ (0, 0) _ rfl X9.out Tryz.underlying37 rfl (by rw [S7.out.sz]; kernel_rfl)) rfl ?_)
              rw [E1.out, HX7.out]
              exact ⟨_, [], rfl, by rw [PS.out]; exact PcsAt.nil _ _, .inr rfl, S7.out.ret C9.out⟩
            · obtain ⟨e1, e2⟩ := cm_ok1 HPK.out HWR.out HNE.out
              have c5 := S7a.blk.cnxt
              have z5 := S7a.blk.fz 5
              have S8a := S7a.setnxt ((j : Int) + 1)
              obtain ⟨W8, hW8⟩ : ∃ V, V = W7.setCell ⟨w.heap.size, 5, none⟩ (.int .i64 ((j : Int) + 1)) := ⟨_, rfl⟩
              rw [← hW8] at S8a
              have HW8 := Lib.hid hW8
              have S7 := Lib.hid (show Rf2 w W8 (cmS x k 1) (.slice none 0 0) by rw [e2, show ((j : Int) + 1 - 1).toNat = j by omega]; rw [← HX6.out] at S8a; exact S8a)
              have PS := Lib.hid (show (cmS x k 1).ps = [] by rw [e2])
              have E1 := Lib.hid e1
              obtain ⟨x7, hx7⟩ : ∃ z : St, cmS x k 1 = z := ⟨_, rfl⟩
              have HX7 := Lib.hid hx7
              rw [hx7] at S7 PS
              obtain ⟨nx, hnx⟩ : ∃ z, ({ x6 with s := { x6.s with revs := x6.s.revs.set j (nm x.ps) } } : St).s.nxt = z := ⟨_, rfl⟩
              rw [hnx] at c5
              clear hr hW7 hW8 S7a S8a e1 e2 hx7 hnx
              go_upto_region 22 with fail
              rw [← HW7.out]
              clear c6 z6
              go_upto_region 24 with fail
              rw [← HW8.out]
              clear c5 z5
              go_wp2_with (first
                | (refine wpList_load_row rfl 37 (.tmp 3) rfl w.heap.size rfl 37 (x7.cells (.slice none 0 0)).toArray (0, 0) _ S7.out.blk Tryz.underlying37 rfl (by rw [S7.out.sz]; kernel_rfl) ?_)
                | (refine wpList_store_rowC rfl 37 (.tmp 6) (.tmp 97) rfl (w.heap.size + 1) (x7.cells (.slice none 0 0)).toArray rfl rfl 37 _ S7.out.res (by rw [S7.out.sz]; kernel_rfl) (by rw [S7.out.sz]; rfl) S7.out.all ?_; intro w9 h9 hc; have X9 := Lib.hid h9; have C9 := Lib.hid hc; clear h9 hc))
              (refine bodyPost_ret (results_row_tmp rfl _ _ (w.heap.size + 1) 37 _ (0, 0) _ rfl X9.out Tryz.underlying37 rfl (by rw [S7.out.sz]; kernel_rfl)) rfl ?_)
              rw [E1.out, HX7.out]
              exact ⟨_, [], rfl, by rw [PS.out]; exact PcsAt.nil _ _, .inr rfl, S7.out.ret C9.out⟩
          · obtain ⟨e1, e2⟩ := cm_bad HA.out HPK.out HWR.out (by have := HZ.out; simpa using this)
            have E1 := Lib.hid e1; have E2 := Lib.hid e2
            have PS := Lib.hid (show x6.ps = [] by rw [← HX6.out])
            clear e1 e2
            go_wp2_with (first
              | (refine wpList_load_row rfl 37 (.tmp 3) rfl w.heap.size rfl 37 (x6.cells (.slice none 0 0)).toArray (0, 0) _ S6.out.blk Tryz.underlying37 rfl (by rw [S6.out.sz]; kernel_rfl) ?_)
              | (refine wpList_store_rowC rfl 37 (.tmp 6) (.tmp 85) rfl (w.heap.size + 1) (x6.cells (.slice none 0 0)).toArray rfl rfl 37 _ S6.out.res (by rw [S6.out.sz]; kernel_rfl) (by rw [S6.out.sz]; rfl) S6.out.all ?_; intro w9 h9 hc; have X9 := Lib.hid h9; have C9 := Lib.hid hc; clear h9 hc))
            (refine bodyPost_ret (results_row_tmp rfl _ _ (w.heap.size + 1) 37 _ (0, 0) _ rfl X9.out Tryz.underlying37 rfl (by rw [S6.out.sz]; kernel_rfl)) rfl ?_)
            rw [E1.out, E2.out, HX6.out]
            exact ⟨_, [], rfl, by rw [PS.out]; exact PcsAt.nil _ _, .inr rfl, S6.out.ret C9.out⟩
      · obtain rfl : jj = 0 := by omega
        clear hc
        go_upto_region 15 with fail
        cases hwr : Fw.wr x sl
        · have HR := Lib.hid hwr
          obtain ⟨e1, e2⟩ := cm_no HA.out HPK.out hwr
          have E1 := Lib.hid e1; have E2 := Lib.hid e2
          clear hwr e1 e2
          go_wp2_with (first
            | (refine wpList_load_row rfl 37 (.tmp 3) rfl w.heap.size rfl 37 (x.cells lv).toArray (0, 0) _ S1.out.blk Tryz.underlying37 rfl (by rw [S1.out.sz]; kernel_rfl) ?_)
            | (go_at_call 55; go_loud (refine (rwr_at x lv _ false _ HR.out).mono ?_; rintro e w3 ⟨rfl, hb⟩; have B3 := Lib.hid hb; have S3 := Lib.hid (S1.out.below hb); clear hb))
            | (refine wpList_load_row rfl 37 (.tmp 3) rfl w.heap.size rfl 37 (x.cells lv).toArray (0, 0) _ S3.out.blk Tryz.underlying37 rfl (by rw [S3.out.sz]; kernel_rfl) ?_)
            | (refine wpList_store_rowC rfl 37 (.tmp 6) (.tmp 78) rfl (w.heap.size + 1) (x.cells lv).toArray rfl rfl 37 _ S3.out.res (by rw [S3.out.sz]; kernel_rfl) (by rw [S3.out.sz]; rfl) S3.out.all ?_; intro w9 h9 hc; have X9 := Lib.hid h9; have C9 := Lib.hid hc; clear h9 hc))
          (refine bodyPost_ret (results_row_tmp rfl _ _ (w.heap.size + 1) 37 _ (0, 0) _ rfl X9.out Tryz.underlying37 rfl (by rw [S3.out.sz]; kernel_rfl)) rfl ?_)
          rw [E1.out, E2.out]
          exact ⟨lv, dvs, rfl, HP.out.below (S3.out.ret C9.out), .inl rfl, S3.out.ret C9.out⟩
        · have HR := Lib.hid hwr
          obtain ⟨q1, q2, -, -⟩ := wr_is hwr
          obtain ⟨j, hjs⟩ : ∃ j : Nat, sl = (j : Int) + 1 := ⟨(sl - 1).toNat, by omega⟩
          subst hjs
          have hj7 : j < 7 := by have := N7.out; omega
          have HWR := Lib.hid hwr
          clear hwr q1 q2
          obtain ⟨T, hT⟩ : ∃ T, strOf (nm x.ps) = T := ⟨_, rfl⟩
          have HT := Lib.hid hT
          have hemp := strOf_empty (nm x.ps)
          rw [hT] at hemp
          obtain ⟨z, hz⟩ : ∃ z, (nm x.ps == []) = z := ⟨_, rfl⟩
          have HZ := Lib.hid hz
          rw [hz] at hemp
          clear hT hz
          go_upto_region 18 with (first
            | (refine wpList_load_row rfl 37 (.tmp 3) rfl w.heap.size rfl 37 (x.cells lv).toArray (0, 0) _ S1.out.blk Tryz.underlying37 rfl (by rw [S1.out.sz]; kernel_rfl) ?_)
            | (go_at_call 55; go_loud (refine (rwr_at x lv _ true _ HR.out).mono ?_; rintro e w3 ⟨rfl, hb⟩; have S3 := Lib.hid (S1.out.below hb); have d13 := S3.out.blk.cpc HL.out; clear hb))
            | (go_at_call 57; go_loud (refine (rname_at lv x.ps dvs _ (HP.out.below S3.out.bel) SUM.out.1 SUM.out.2).mono ?_; rintro e w5 ⟨rfl, hb⟩; rw [HT.out]; have S5 := Lib.hid (S3.out.below hb); have c13 := S5.out.blk.cpc HL.out; have z13 := S5.out.blk.fz 13; clear hb d13)))
          obtain ⟨W6, hW6⟩ : ∃ V, V = w5.setCell ⟨w.heap.size, 13, none⟩ (.slice none 0 0) := ⟨_, rfl⟩
          have S6 := Lib.hid (show Rf2 w W6 { x with ps := [] } (.slice none 0 0) by rw [hW6]; exact S5.out.setpcs _ _ rfl)
          have HW6 := Lib.hid hW6
          obtain ⟨x6, hx6⟩ : ∃ z : St, { x with ps := [] } = z := ⟨_, rfl⟩
          rw [hx6] at S6
          have HX6 := Lib.hid hx6
          clear hW6 hx6
          go_upto_region 19 with fail
          rw [← HW6.out]
          clear c13 z13
          cases z
          · have HNE := Lib.hid (show nm x.ps ≠ [] by have := HZ.out; simpa using this)
            obtain ⟨r, hr⟩ : ∃ r, x.s.revs[j]? = some r := ⟨_, List.getElem?_eq_getElem (by rw [HL.out]; exact hj7)⟩
            have c6 := S6.out.blk.crev j r (by rw [← HX6.out]; exact hr)
            have z6 := S6.out.blk.fz (6 + j)
            have S7a := S6.out.setrev j (nm x.ps) hj7
            rw [HT.out] at S7a
            obtain ⟨W7, hW7⟩ : ∃ V, V = W6.setCell ⟨w.heap.size, 6 + j, none⟩ (.string T) := ⟨_, rfl⟩
            rw [← hW7] at S7a
            have HW7 := Lib.hid hW7
            rcases HA.out with rfl | rfl
            · obtain ⟨e1, e2⟩ := cm_ok0 HPK.out HWR.out HNE.out
              have S7 := Lib.hid (show Rf2 w W7 (cmS x k 0) (.slice none 0 0) by rw [e2, show ((j : Int) + 1 - 1).toNat = j by omega]; rw [← HX6.out] at S7a; exact S7a)
              have PS := Lib.hid (show (cmS x k 0).ps = [] by rw [e2])
              have E1 := Lib.hid e1
              obtain ⟨x7, hx7⟩ : ∃ z : St, cmS x k 0 = z := ⟨_, rfl⟩
              have HX7 := Lib.hid hx7
              rw [hx7] at S7 PS
              clear hr hW7 S7a e1 e2 hx7
              go_upto_region 22 with fail
              rw [← HW7.out]
              clear c6 z6
              go_wp2_with (first
                | (refine wpList_load_row rfl 37 (.tmp 3) rfl w.heap.size rfl 37 (x7.cells (.slice none 0 0)).toArray (0, 0) _ S7.out.blk Tryz.underlying37 rfl (by rw [S7.out.sz]; kernel_rfl) ?_)
                | (refine wpList_store_rowC rfl 37 (.tmp 6) (.tmp 97) rfl (w.heap.size + 1) (x7.cells (.slice none 0 0)).toArray rfl rfl 37 _ S7.out.res (by rw [S7.out.sz]; kernel_rfl) (by rw [S7.out.sz]; rfl) S7.out.all ?_; intro w9 h9 hc; have X9 := Lib.hid h9; have C9 := Lib.hid hc; clear h9 hc))
              (refine bodyPost_ret (results_row_tmp rfl _ _ (w.heap.size + 1) 37 _ (0, 0) _ rfl X9.out Tryz.underlying37 rfl (by rw [S7.out.sz]; kernel_rfl)) rfl ?_)
              rw [E1.out, HX7.out]
              exact ⟨_, [], rfl, by rw [PS.out]; exact PcsAt.nil _ _, .inr rfl, S7.out.ret C9.out⟩
            · obtain ⟨e1, e2⟩ := cm_ok1 HPK.out HWR.out HNE.out
              have c5 := S7a.blk.cnxt
              have z5 := S7a.blk.fz 5
              have S8a := S7a.setnxt ((j : Int) + 1)
              obtain ⟨W8, hW8⟩ : ∃ V, V = W7.setCell ⟨w.heap.size, 5, none⟩ (.int .i64 ((j : Int) + 1)) := ⟨_, rfl⟩
              rw [← hW8] at S8a
              have HW8 := Lib.hid hW8
              have S7 := Lib.hid (show Rf2 w W8 (cmS x k 1) (.slice none 0 0) by rw [e2, show ((j : Int) + 1 - 1).toNat = j by omega]; rw [← HX6.out] at S8a; exact S8a)
              have PS := Lib.hid (show (cmS x k 1).ps = [] by rw [e2])
              have E1 := Lib.hid e1
              obtain ⟨x7, hx7⟩ : ∃ z : St, cmS x k 1 = z := ⟨_, rfl⟩
              have HX7 := Lib.hid hx7
              rw [hx7] at S7 PS
              obtain ⟨nx, hnx⟩ : ∃ z, ({ x6 with s := { x6.s with revs := x6.s.revs.set j (nm x.ps) } } : St).s.nxt = z := ⟨_, rfl⟩
              rw [hnx] at c5
              clear hr hW7 hW8 S7a S8a e1 e2 hx7 hnx
              go_upto_region 22 with fail
              rw [← HW7.out]
              clear c6 z6
              go_upto_region 24 with fail
              rw [← HW8.out]
              clear c5 z5
              go_wp2_with (first
                | (refine wpList_load_row rfl 37 (.tmp 3) rfl w.heap.size rfl 37 (x7.cells (.slice none 0 0)).toArray (0, 0) _ S7.out.blk Tryz.underlying37 rfl (by rw [S7.out.sz]; kernel_rfl) ?_)
                | (refine wpList_store_rowC rfl 37 (.tmp 6) (.tmp 97) rfl (w.heap.size + 1) (x7.cells (.slice none 0 0)).toArray rfl rfl 37 _ S7.out.res (by rw [S7.out.sz]; kernel_rfl) (by rw [S7.out.sz]; rfl) S7.out.all ?_; intro w9 h9 hc; have X9 := Lib.hid h9; have C9 := Lib.hid hc; clear h9 hc))
              (refine bodyPost_ret (results_row_tmp rfl _ _ (w.heap.size + 1) 37 _ (0, 0) _ rfl X9.out Tryz.underlying37 rfl (by rw [S7.out.sz]; kernel_rfl)) rfl ?_)
              rw [E1.out, HX7.out]
              exact ⟨_, [], rfl, by rw [PS.out]; exact PcsAt.nil _ _, .inr rfl, S7.out.ret C9.out⟩
          · obtain ⟨e1, e2⟩ := cm_bad HA.out HPK.out HWR.out (by have := HZ.out; simpa using this)
            have E1 := Lib.hid e1; have E2 := Lib.hid e2
            have PS := Lib.hid (show x6.ps = [] by rw [← HX6.out])
            clear e1 e2
            go_wp2_with (first
              | (refine wpList_load_row rfl 37 (.tmp 3) rfl w.heap.size rfl 37 (x6.cells (.slice none 0 0)).toArray (0, 0) _ S6.out.blk Tryz.underlying37 rfl (by rw [S6.out.sz]; kernel_rfl) ?_)
              | (refine wpList_store_rowC rfl 37 (.tmp 6) (.tmp 85) rfl (w.heap.size + 1) (x6.cells (.slice none 0 0)).toArray rfl rfl 37 _ S6.out.res (by rw [S6.out.sz]; kernel_rfl) (by rw [S6.out.sz]; rfl) S6.out.all ?_; intro w9 h9 hc; have X9 := Lib.hid h9; have C9 := Lib.hid hc; clear h9 hc))
            (refine bodyPost_ret (results_row_tmp rfl _ _ (w.heap.size + 1) 37 _ (0, 0) _ rfl X9.out Tryz.underlying37 rfl (by rw [S6.out.sz]; kernel_rfl)) rfl ?_)
            rw [E1.out, E2.out, HX6.out]
            exact ⟨_, [], rfl, by rw [PS.out]; exact PcsAt.nil _ _, .inr rfl, S6.out.ret C9.out⟩
end Go.Proofs.YtabfmhlhdebcpaaGreatDoor
namespace Go.Proofs.YtabfmhlhdebcpaaGreatDoor
open Go.RowKit Fw
set_option linter.unusedVariables false
set_option linter.unusedSimpArgs false
attribute [local go_sem] Oper.semAt_some
theorem rpcsOk : ElemOk Tryz.prog 35 67 (.agg #[.int .i64 0, .slice none 0 0]) 2 32 :=
  ⟨Tryz.underlying35, info_parts (by kernel_rfl), rfl, by decide⟩
namespace Fw
/-- The new list behind k steps. -/
def lk (A : Nat) (d : Bs) (ps : List Pc) (k : Nat) : List Pc := if k ≤ pos A ps then ps.take k else ps.take (pos A ps) ++ ⟨A, d⟩ :: (ps.take k).drop (pos A ps)
theorem lk_zero (A : Nat) (d : Bs) (ps : List Pc) : lk A d ps 0 = [] := by unfold lk; rw [if_pos (Nat.zero_le _)]; rfl
theorem lk_before {A : Nat} {d : Bs} {ps : List Pc} {k : Nat} {p : Pc} (hp : ps[k]? = some p) (h : k < pos A ps) : lk A d ps (k + 1) = lk A d ps k ++ [p] := by
  unfold lk; rw [if_pos (by omega), if_pos (by omega), take_snoc hp]
theorem lk_there {A : Nat} {d : Bs} {ps : List Pc} {k : Nat} {p : Pc} (hp : ps[k]? = some p) (h : k = pos A ps) : lk A d ps (k + 1) = (lk A d ps k ++ [⟨A, d⟩]) ++ [p] := by
  unfold lk; rw [if_neg (by omega), if_pos (by omega), take_snoc hp, ← h, List.drop_append_of_le_length (by rw [List.length_take]; have := (List.getElem?_eq_some_iff.1 hp).1; omega), List.drop_of_length_le (by rw [List.length_take]; omega)]
  simp
theorem lk_behind {A : Nat} {d : Bs} {ps : List Pc} {k : Nat} {p : Pc} (hp : ps[k]? = some p) (h : pos A ps < k) : lk A d ps (k + 1) = lk A d ps k ++ [p] := by
  unfold lk; rw [if_neg (by omega), if_neg (by omega), take_snoc hp, List.drop_append_of_le_length (by rw [List.length_take]; have := (List.getElem?_eq_some_iff.1 hp).1; omega)]
  simp
theorem lk_end {A : Nat} {d : Bs} {ps : List Pc} (h : pos A ps < ps.length) : lk A d ps ps.length = ins A d ps := by
  unfold lk ins; rw [if_neg (by omega), List.take_length]
theorem lk_end_no {A : Nat} {d : Bs} {ps : List Pc} (h : pos A ps = ps.length) : lk A d ps ps.length ++ [⟨A, d⟩] = ins A d ps := by
  unfold lk ins; rw [if_pos (by omega), h, List.take_length, List.drop_length]
theorem lk_len (A : Nat) (d : Bs) (ps : List Pc) (k : Nat) : (lk A d ps k).length ≤ ps.length + 1 := by
  unfold lk; split
  · rw [List.length_take]; omega
  · rw [List.length_append, List.length_cons, List.length_take, List.length_drop, List.length_take]; have := pos_le A ps; omega
theorem ovl_no {A n : Nat} {p : Pc} (h : ovl A n p = false) (hn : 0 < n) (hp : 1 ≤ p.d.length) : p.at_ ≠ A := by
  unfold ovl at h
  intro e
  rw [e, decide_eq_true (by omega), decide_eq_true (by omega)] at h
  cases h
theorem any_take {α : Type} {f : α → Bool} {l : List α} {k : Nat} {x : α} (hx : l[k]? = some x) (h : (l.take k).any f = false) (h2 : f x = false) : (l.take (k + 1)).any f = false := by
  rw [take_snoc hx, List.any_append, h]; simp [h2]
end Fw
/-- A list of pieces that is built anew. -/
structure Lst (w : World) (dvs : List Value) (W : World) (b : Value) (ls : List Pc) (dk : List Value) : Prop where
  own : W.ownsRow w.heap.size 67 2 b ls.length ((ls.zip dk).flatMap pcC)
  len : dk.length = ls.length
  el : ∀ (i : Nat) (p : Pc) (dv : Value), ls[i]? = some p → dk[i]? = some dv → W.ownsRow 0 5 1 dv p.d.length (by8 p.d)
  new : NewD w dvs dk
section
variable {w W W' : World} {dvs dk : List Value} {b b' : Value} {ls : List Pc}
theorem Lst.zero (w W : World) (dvs : List Value) : Lst w dvs W (.slice none 0 0) [] [] :=
  ⟨World.ownsRow_nil _ _ _ _, rfl, fun i p dv h => by simp at h, fun dv h => by cases h⟩
theorem Lst.below (h : Lst w dvs W b ls dk) (hb : Below W.heap.size W W') : Lst w dvs W' b ls dk :=
  ⟨own_below h.own hb, h.len, fun i p dv h1 h2 => own_below (h.el i p dv h1 h2) hb, h.new⟩
theorem Lst.pcs (h : Lst w dvs W b ls dk) : PcsAt 67 W ls b dk := ⟨own_base h.own (Nat.zero_le _), h.len, h.el⟩
theorem Lst.more (h : Lst w dvs W b ls dk) {p : Pc} {dv : Value} (hd : W.ownsRow 0 5 1 dv p.d.length (by8 p.d)) (hn : dv ∈ dvs ∨ ∀ k, dv.ownBlock = some k → w.heap.size ≤ k)
    (ho : W'.ownsRow w.heap.size 67 2 b' (ls.length + 1) ((ls.zip dk).flatMap pcC ++ pcC (p, dv))) (hg : W.grownBy W' b.ownBlock) : Lst w dvs W' b' (ls ++ [p]) (dk ++ [dv]) := by
  have hc : Chg (fun k => b.ownBlock = some k) W W' := Chg.of_grown hg (fun k e => e)
  have hel : ∀ (i : Nat) (q : Pc) (dq : Value), (ls ++ [p])[i]? = some q → (dk ++ [dv])[i]? = some dq → W.ownsRow 0 5 1 dq q.d.length (by8 q.d) := by
    intro i q dq h1 h2
    by_cases hi : i < ls.length
    · rw [List.getElem?_append_left hi] at h1
      rw [List.getElem?_append_left (by rw [h.len]; exact hi)] at h2
      exact h.el i q dq h1 h2
    · rw [List.getElem?_append_right (by omega)] at h1
      rw [List.getElem?_append_right (by rw [h.len]; omega), h.len] at h2
      obtain ⟨j, hj⟩ : ∃ j, i - ls.length = j := ⟨_, rfl⟩
      rw [hj] at h1 h2
      cases j with
      | zero => simp at h1 h2; subst h1; subst h2; exact hd
      | succ j => simp at h1
  refine ⟨?_, by simp [h.len], fun i q dq h1 h2 => own_chg (hel i q dq h1 h2) hc (fun k hk e => own_apartT (hel i q dq h1 h2) h.own (by decide) k hk e), ?_⟩
  · have e : ((ls ++ [p]).zip (dk ++ [dv])).flatMap pcC = (ls.zip dk).flatMap pcC ++ pcC (p, dv) := by
      rw [List.zip_append (by rw [h.len]), List.flatMap_append]; simp
    rw [e, List.length_append]; exact ho
  · intro x hx
    rcases List.mem_append.1 hx with hx | hx
    · exact h.new x hx
    · rw [List.mem_singleton.1 hx]; exact hn
end
end Go.Proofs.YtabfmhlhdebcpaaGreatDoor
namespace Go.Proofs.YtabfmhlhdebcpaaGreatDoor
open Go.RowKit Fw
set_option linter.unusedVariables false
set_option linter.unusedSimpArgs false
attribute [local go_sem] Oper.semAt_some
def RDPost (x : St) (dvs : List Value) (A : Nat) (d : Bs) (w : World) (e : Ending) (w' : World) : Prop :=
  ∃ lv' dvs', e = .returned (.tuple #[.agg ((dlS x A d).cells lv').toArray, .int .i64 (dlE x A d)]) ∧ PcsAt 67 w' (dlS x A d).ps lv' dvs' ∧ NewD w dvs dvs' ∧ Below w.heap.size w w'
set_option maxRecDepth 20000 in
set_option maxHeartbeats 3200000 in
theorem rDownload_bad (x : St) (lv : Value) (dvs : List Value) (A : Nat) (v : Value) (d : Bs) (w : World) (hok : Fw.Ok x) (hp : PcsAt 67 w x.ps lv dvs) (hv : BytesV w v d) (hA : A < 4294967296) (hd : d.length ≤ 4611686018427387904) (hbad : dlBad x.c A d.length = true) :
    Calls Tryz.prog 30 #[.agg (x.cells lv).toArray, .int .u32 (A : Int), v] w (RDPost x dvs A d w) := by
  obtain ⟨a, c, rfl, -⟩ := id hv
  have HE := Lib.hid (show dlE x A d = 2 by unfold dlE; rw [if_pos hbad])
  have HS := Lib.hid (show dlS x A d = x by unfold dlS; rw [HE.out, if_neg (by decide)])
  unfold RDPost
  rw [HE.out, HS.out]
  obtain ⟨W, hW⟩ : ∃ W, W = (w.alloc (.cells (x.cells lv).toArray 37)).alloc (.cells #[.int .i64 0, .bool false, .string ⟨#[]⟩, .int .i64 0, .int .i64 0, .int .i64 0, .string ⟨#[]⟩, .string ⟨#[]⟩, .string ⟨#[]⟩, .string ⟨#[]⟩, .string ⟨#[]⟩, .string ⟨#[]⟩, .string ⟨#[]⟩, .slice none 0 0] 37) := ⟨_, rfl⟩
  have S0 := Lib.hid (show Rf2 w W x lv by rw [hW]; exact Rf2.new w x lv hok.len (own_one' hp.own))
  have HP := Lib.hid hp
  have c3 := S0.out.blk.cmx
  obtain ⟨cs, hcs⟩ : ∃ c, (x.cells lv).toArray = c := ⟨_, rfl⟩
  rw [hcs] at hW ⊢
  have HC := Lib.hid hcs
  have HW := Lib.hid hW
  unfold dlBad at hbad
  obtain ⟨mx, hmx⟩ : ∃ n, x.c.mx = n := ⟨_, rfl⟩
  rw [hmx] at c3 hbad
  obtain ⟨n, hn⟩ : ∃ n, d.length = n := ⟨_, rfl⟩
  rw [hn] at hbad hd ⊢
  clear hmx hn hW hp hv hok hcs
  by_cases g1 : (A : Int) % 4 = 0
  · by_cases g2 : (n : Int) % 4 = 0
    · by_cases g3 : n = 0
      · have g3' : ((n : Int) == 0) = true := by simp; omega
        clear hbad g3
        ((go_enter Tryz.func30, Tryz.ntmps30; go_upto_region 1 with fail; rw [← HW.out]); go_wp2_with (first | (refine wpList_load_row rfl 37 (.tmp 3) rfl w.heap.size rfl 37 (x.cells lv).toArray (0, 0) _ S0.out.blk Tryz.underlying37 rfl (by rw [S0.out.sz]; kernel_rfl) ?_) | (refine wpList_store_rowC rfl 37 (.tmp 6) (.tmp 39) rfl (w.heap.size + 1) (x.cells lv).toArray rfl rfl 37 _ S0.out.res (by rw [S0.out.sz]; kernel_rfl) (by rw [S0.out.sz]; rfl) S0.out.all ?_; intro w9 h9 hc; have X9 := Lib.hid h9; have C9 := Lib.hid hc; clear h9 hc)); (refine bodyPost_ret (results_row_tmp rfl _ _ (w.heap.size + 1) 37 _ (0, 0) _ rfl X9.out Tryz.underlying37 rfl (by rw [S0.out.sz]; kernel_rfl)) rfl ?_); exact ⟨lv, dvs, rfl, HP.out.below (S0.out.ret C9.out), fun dv h => .inl h, S0.out.ret C9.out⟩)
      · have g4 : mx < (A : Int) + (n : Int) := by
          simp only [Bool.or_eq_true, Bool.not_eq_true', decide_eq_false_iff_not, decide_eq_true_eq] at hbad
          omega
        have g3' : ((n : Int) == 0) = false := by simp; omega
        clear hbad
        ((go_enter Tryz.func30, Tryz.ntmps30; go_upto_region 1 with fail; rw [← HW.out]); go_wp2_with (first | (refine wpList_load_row rfl 37 (.tmp 3) rfl w.heap.size rfl 37 (x.cells lv).toArray (0, 0) _ S0.out.blk Tryz.underlying37 rfl (by rw [S0.out.sz]; kernel_rfl) ?_) | (refine wpList_store_rowC rfl 37 (.tmp 6) (.tmp 39) rfl (w.heap.size + 1) (x.cells lv).toArray rfl rfl 37 _ S0.out.res (by rw [S0.out.sz]; kernel_rfl) (by rw [S0.out.sz]; rfl) S0.out.all ?_; intro w9 h9 hc; have X9 := Lib.hid h9; have C9 := Lib.hid hc; clear h9 hc)); (refine bodyPost_ret (results_row_tmp rfl _ _ (w.heap.size + 1) 37 _ (0, 0) _ rfl X9.out Tryz.underlying37 rfl (by rw [S0.out.sz]; kernel_rfl)) rfl ?_); exact ⟨lv, dvs, rfl, HP.out.below (S0.out.ret C9.out), fun dv h => .inl h, S0.out.ret C9.out⟩)
    · clear hbad
      ((go_enter Tryz.func30, Tryz.ntmps30; go_upto_region 1 with fail; rw [← HW.out]); go_wp2_with (first | (refine wpList_load_row rfl 37 (.tmp 3) rfl w.heap.size rfl 37 (x.cells lv).toArray (0, 0) _ S0.out.blk Tryz.underlying37 rfl (by rw [S0.out.sz]; kernel_rfl) ?_) | (refine wpList_store_rowC rfl 37 (.tmp 6) (.tmp 39) rfl (w.heap.size + 1) (x.cells lv).toArray rfl rfl 37 _ S0.out.res (by rw [S0.out.sz]; kernel_rfl) (by rw [S0.out.sz]; rfl) S0.out.all ?_; intro w9 h9 hc; have X9 := Lib.hid h9; have C9 := Lib.hid hc; clear h9 hc)); (refine bodyPost_ret (results_row_tmp rfl _ _ (w.heap.size + 1) 37 _ (0, 0) _ rfl X9.out Tryz.underlying37 rfl (by rw [S0.out.sz]; kernel_rfl)) rfl ?_); exact ⟨lv, dvs, rfl, HP.out.below (S0.out.ret C9.out), fun dv h => .inl h, S0.out.ret C9.out⟩)
  · clear hbad
    ((go_enter Tryz.func30, Tryz.ntmps30; go_upto_region 1 with fail; rw [← HW.out]); go_wp2_with (first | (refine wpList_load_row rfl 37 (.tmp 3) rfl w.heap.size rfl 37 (x.cells lv).toArray (0, 0) _ S0.out.blk Tryz.underlying37 rfl (by rw [S0.out.sz]; kernel_rfl) ?_) | (refine wpList_store_rowC rfl 37 (.tmp 6) (.tmp 39) rfl (w.heap.size + 1) (x.cells lv).toArray rfl rfl 37 _ S0.out.res (by rw [S0.out.sz]; kernel_rfl) (by rw [S0.out.sz]; rfl) S0.out.all ?_; intro w9 h9 hc; have X9 := Lib.hid h9; have C9 := Lib.hid hc; clear h9 hc)); (refine bodyPost_ret (results_row_tmp rfl _ _ (w.heap.size + 1) 37 _ (0, 0) _ rfl X9.out Tryz.underlying37 rfl (by rw [S0.out.sz]; kernel_rfl)) rfl ?_); exact ⟨lv, dvs, rfl, HP.out.below (S0.out.ret C9.out), fun dv h => .inl h, S0.out.ret C9.out⟩)
end Go.Proofs.YtabfmhlhdebcpaaGreatDoor
namespace Go.Proofs.YtabfmhlhdebcpaaGreatDoor
open Go.RowKit Fw
set_option linter.unusedVariables false
set_option linter.unusedSimpArgs false
attribute [local go_sem] Oper.semAt_some
theorem Lst.app {w W : World} {dvs dk : List Value} {b : Value} {ls : List Pc} {p : Pc} {dv : Value} (h : Lst w dvs W b ls dk) (hd : W.ownsRow 0 5 1 dv p.d.length (by8 p.d)) (hn : dv ∈ dvs ∨ ∀ k, dv.ownBlock = some k → w.heap.size ≤ k) (hl : ls.length ≤ 1048577) (hb : w.heap.size ≤ W.heap.size)
    {ops : Array Oper} {rest : List Oper} {o : Oper} {a : Act} {Q : Exit → Act → World → Prop} (hgd : o.guard = none) (s y : Operand) (ho : o.op = .call { callee := .builtin .append, args := #[s, y], argTypes := #[35, 35] }) (hs : a.eval s = b) (hy : a.eval y = .slice (some ⟨W.heap.size, 0, none⟩) 1 1)
    (hk : ∀ b' w2, Lst w dvs w2 b' (ls ++ [p]) (dk ++ [dv]) → Below w.heap.size W w2 → (∀ k, k < W.heap.size → b.ownBlock ≠ some k → w2.heap[k]? = W.heap[k]?) → wpList Tryz.prog ops Q rest (a.put o.dst b') w2) : wpList Tryz.prog ops Q (o :: rest) a (W.alloc (.cells #[.int .i64 ((p.at_ : Nat) : Int), dv] 67)) := by
  have hB := gr_alloc W (.cells #[.int .i64 ((p.at_ : Nat) : Int), dv] 67)
  have h2 := h.below hB
  refine app_law_at rpcsOk hgd s y ho w.heap.size b ls.length ((ls.zip dk).flatMap pcC) hs h2.own (some ⟨W.heap.size, 0, none⟩) 1 1 [.int .i64 ((p.at_ : Nat) : Int), dv] hy (by simp) (by omega) (Row.lit W #[.int .i64 ((p.at_ : Nat) : Int), dv] 67 (0, 0)) rfl (by intro u hu; rcases List.mem_cons.1 hu with rfl | hu; rfl; rw [List.mem_singleton.1 hu]; exact own_one' hd) (by omega) (by omega) (Nat.le_trans hb hB.size) ?_
  intro v' w2 hown hgrow _
  refine hk v' w2 (h2.more (own_below hd hB) hn hown hgrow) ?_ (fun k hk1 hk2 => ?_)
  · have hB2 : Below w.heap.size W (W.alloc (.cells #[.int .i64 ((p.at_ : Nat) : Int), dv] 67)) := (Below.refl w.heap.size W).trans (hB.mono hb)
    exact hB2.grown hgrow (Nat.le_trans hb hB.size) (fun j hj => (h2.own.lt j hj).1)
  · rw [hgrow.block k (Nat.lt_of_lt_of_le hk1 hB.size) (fun e => hk2 e.symm)]
    exact hB.block k hk1
theorem Rf2.app {w W w2 : World} {x : St} {lv : Value} {dvs dk : List Value} {b : Value} {ls : List Pc} (S : Rf2 w W x lv) (h : Lst w dvs W b ls dk) (hb : Below w.heap.size W w2) (hk : ∀ k, k < W.heap.size → b.ownBlock ≠ some k → w2.heap[k]? = W.heap[k]?) : Rf2 w w2 x lv :=
  ⟨S.bel.trans hb, (hk _ (Array.getElem?_eq_some_iff.1 S.blk).1 (own_apartB2 h.own S.blk (by decide))).trans S.blk, (hk _ S.lt (own_apartB2 h.own S.res (by decide))).trans S.res, S.len, S.one⟩
set_option maxRecDepth 20000 in
set_option maxHeartbeats 6400000 in
theorem rDownload_ok (x : St) (lv : Value) (dvs : List Value) (A : Nat) (v : Value) (d : Bs) (w : World) (hok : Fw.Ok x) (hp : PcsAt 67 w x.ps lv dvs) (hv : BytesV w v d) (hA : A < 4294967296) (hbad : dlBad x.c A d.length = false) :
    Calls Tryz.prog 30 #[.agg (x.cells lv).toArray, .int .u32 (A : Int), v] w (RDPost x dvs A d w) := by
  have hgood : (A : Int) % 4 = 0 ∧ ((d.length : Nat) : Int) % 4 = 0 ∧ d.length ≠ 0 ∧ ¬ x.c.mx < (A : Int) + (d.length : Int) := by
    unfold dlBad at hbad
    simp only [Bool.or_eq_false_iff, Bool.not_eq_false', decide_eq_false_iff_not, decide_eq_true_eq] at hbad
    omega
  obtain ⟨g1, g2, g3, g4⟩ := hgood
  have hmx : x.c.mx ≤ 1048576 := by obtain ⟨-, -, -, h, -⟩ := cfgOk_is hok.cfg; exact h
  have hd2 : d.length ≤ 1048576 := by omega
  have g3' : ((d.length : Int) == 0) = false := by rw [beq_eq_false_iff_ne]; omega
  have hlen := hok.sum.2
  have hsep := hok.sep
  have htop : ∀ p ∈ x.ps, p.at_ + p.d.length ≤ 1048576 := fun p hp => by have := hok.top p hp; obtain ⟨-, -, -, h, -⟩ := cfgOk_is hok.cfg; omega
  have DLE := Lib.hid (show dlE x A d = if x.ps.any (ovl A d.length) then 276 else 0 by unfold dlE; rw [hbad]; rfl)
  obtain ⟨vc, vn, rfl, -⟩ := id hv
  have V := Lib.hid hv
  have hd3 : d.length ≤ 140737488355328 := by omega
  have OWN := Lib.hid (fun W h => Own_any (.slice vc d.length vn) d W h hd3)
  obtain ⟨W, hW⟩ : ∃ W, W = (w.alloc (.cells (x.cells lv).toArray 37)).alloc (.cells #[.int .i64 0, .bool false, .string ⟨#[]⟩, .int .i64 0, .int .i64 0, .int .i64 0, .string ⟨#[]⟩, .string ⟨#[]⟩, .string ⟨#[]⟩, .string ⟨#[]⟩, .string ⟨#[]⟩, .string ⟨#[]⟩, .string ⟨#[]⟩, .slice none 0 0] 37) := ⟨_, rfl⟩
  have S0 := Lib.hid (show Rf2 w W x lv by rw [hW]; exact Rf2.new w x lv hok.len (own_one' hp.own))
  have HP := Lib.hid hp
  have HL := Lib.hid hok.len
  have LEN := Lib.hid hlen
  have c3 := S0.out.blk.cmx
  obtain ⟨ps, hps⟩ : ∃ z, x.ps = z := ⟨_, rfl⟩
  have PSE := Lib.hid hps
  rw [hps] at HP DLE LEN hsep htop
  have TOP := Lib.hid htop
  clear htop
  obtain ⟨al, cl, hlv⟩ : ∃ a c, lv = .slice a ps.length c := by rw [← hps]; exact own_shape hp.own
  have LKL := Lib.hid (fun k => lk_len A d ps k)
  have SEP := Lib.hid hsep
  have D1 := Lib.hid (show 1 ≤ d.length by omega)
  have POS := Lib.hid (pos_le A ps)
  obtain ⟨cs, hcs⟩ : ∃ c, (x.cells lv).toArray = c := ⟨_, rfl⟩
  rw [hcs] at hW ⊢
  have HW := Lib.hid hW
  obtain ⟨mx, hm⟩ : ∃ n, x.c.mx = n := ⟨_, rfl⟩
  rw [hm] at c3 hmx g4
  obtain ⟨m, hmm⟩ : ∃ m, ps.length = m := ⟨_, rfl⟩
  have HM := Lib.hid hmm
  rw [hmm] at hlv
  have HLV := Lib.hid hlv
  have hm20 : m ≤ 1048576 := by have := LEN.out; omega
  clear hm hmm hW hcs hok hp hv hbad hlen hsep hps hlv hd3
  (go_enter Tryz.func30, Tryz.ntmps30; go_upto_region 1 with fail; rw [← HW.out])
  go_wp2
  have hAD : A + d.length ≤ 1048576 := by omega
  clear g1 g2 g3 g3' g4 hmx hd2 c3
  go_loopw [10, 11, 12] (fun b dn i wr => ∃ (k : Nat) (dk : List Value), k ≤ m ∧ i = .int .i64 k ∧ dn = .bool (decide (pos A ps < k)) ∧ Lst w dvs wr b (lk A d ps k) dk ∧ Hid ((ps.take k).any (ovl A d.length) = false) ∧ Rf2 w wr x lv) (fun _ _ i _ => m - (intOf i).toNat)
  case atStart => exact ⟨0, [], by omega, rfl, rfl, by rw [lk_zero]; exact Lst.zero _ _ _, Lib.hid rfl, S0.out⟩
  case round =>
    obtain ⟨k, dk, hk, rfl, rfl, hl, HO, hS⟩ := hrel
    have L1 := Lib.hid hl; have S1 := Lib.hid hS
    have c13 : wr.cell? ⟨w.heap.size, 13, none⟩ = some (.slice al m cl) := by rw [← HLV.out]; exact hS.blk.cpc HL.out
    obtain ⟨ab, cb, hb⟩ : ∃ a c, _ = Value.slice a _ c := own_shape hl.own
    subst hb
    clear hl hS
    by_cases hlt : k < m
    · obtain ⟨⟨a, pd⟩, hp⟩ : ∃ p : Pc, ps[k]? = some p := ⟨_, List.getElem?_eq_getElem (by rw [HM.out]; exact hlt)⟩
      obtain ⟨dv, hdv, hz⟩ := HP.out.get k ⟨a, pd⟩ hp
      have hsl := SliceV.below HP.out.slice S1.out.bel
      rw [HLV.out] at hsl
      obtain ⟨gq, o, cq, he1, hr1⟩ := SliceV.rng pcC_len hsl k _ hz (by decide)
      injection he1 with he1 he1' he1''
      subst he1; subst he1''
      have R1 := Lib.hid (show wr.rangeAt gq (o + k * 2) [.int .i64 (a : Int), dv] from hr1)
      have DV := Lib.hid (HP.out.el k ⟨a, pd⟩ dv hp hdv)
      have DN := Lib.hid (show dv ∈ dvs ∨ ∀ j, dv.ownBlock = some j → w.heap.size ≤ j from .inl (List.mem_of_getElem? hdv))
      obtain ⟨ad, cd, hsd⟩ := own_shape DV.out
      have PAT := Lib.hid hp
      have hp1 := (Sep.at SEP.out hp).2
      have hkn := (List.getElem?_eq_some_iff.1 hp).1
      have hatb : a + pd.length ≤ 1048576 := TOP.out ⟨a, pd⟩ (List.mem_of_getElem? hp)
      have hp1 : 1 ≤ pd.length := hp1
      have DV : Hid (w.ownsRow 0 5 1 dv pd.length (by8 pd)) := DV
      have hsd : dv = .slice ad pd.length cd := hsd
      have OVD := Lib.hid (show ovl A d.length ⟨a, pd⟩ = (decide (a < A + d.length) && decide (A < a + pd.length)) from rfl)
      have PLT := Lib.hid (fun (h : k < pos A ps) => (show a < A from pos_lt h hp))
      have PGE := Lib.hid (fun (h : pos A ps ≤ k) => (show A ≤ a from pos_ge SEP.out h hp))
      subst hsd
      clear hr1 he1' hz hdv hsl
      go_upto_region 10 with (first | (refine wpList_load_mid rfl 67 (.tmp 50) rfl gq (o + k * 2) rfl [.int .i64 (a : Int), .slice ad pd.length cd] _ R1.out Tryz.underlying67 rfl (by kernel_rfl) ?_) | (refine wpList_store_new rfl 67 (.tmp 13) (.tmp 51) rfl #[.int .i64 (a : Int), .slice ad pd.length cd] 67 _ rfl rfl (by kernel_rfl) rfl (by simp [Value.oneCell']) ?_; intro w3 hh hw; have Y3 := Lib.hid hh; have B3 := Lib.hid hw; clear hh hw))
      obtain ⟨q, hq⟩ : ∃ q, wr.heap.size = q := ⟨_, rfl⟩
      have HQ := Lib.hid hq
      rw [hq] at Y3 ⊢
      have y0 : w3.cell? ⟨q, 0, none⟩ = some (.int .i64 (a : Int)) := (cell_of_row _ _ 0 _ _ _ Y3.out).trans rfl
      have y1 : w3.cell? ⟨q, 1, none⟩ = some (.slice ad pd.length cd) := (cell_of_row _ _ 1 _ _ _ Y3.out).trans rfl
      have L3 := Lib.hid (L1.out.below B3.out)
      have S3 := Lib.hid (S1.out.below B3.out)
      have DV3 := Lib.hid (own_below DV.out S3.out.bel)
      have QB := Lib.hid (show ∀ b2 ms cb2, (Value.slice b2 ms cb2) = .slice ab (lk A d ps k).length cb → (Value.slice b2 ms cb2).ownBlock ≠ some q from fun b2 ms cb2 e h => by
        have := (L1.out.own.lt q (e ▸ h)).2
        have := HQ.out; omega)
      clear hq c13
      have LKA := Lib.hid (show (lk A d ps k).length ≤ 1048577 by have := LKL.out k; have := LEN.out; omega)
      cases hov : ovl A d.length ⟨a, pd⟩
      · have HOV := Lib.hid hov
        have HO2 := Lib.hid (Fw.any_take PAT.out HO.out hov)
        rw [OVD.out] at hov
        have hane : a ≠ A := ovl_no HOV.out (by have := D1.out; omega) hp1
        have hov2 : ¬ (a < A + d.length ∧ A < a + pd.length) := by
          rintro ⟨h1, h2⟩
          rw [decide_eq_true h1, decide_eq_true h2] at hov; cases hov
        clear hov
        rcases Nat.lt_trichotomy k (pos A ps) with hkp | hkp | hkp
        · have ha := PLT.out hkp
          have q1 : (a : Int) < (A : Int) + (d.length : Int) := by omega
          have q2 : ¬ (A : Int) < (a : Int) + (pd.length : Int) := by omega
          have q3 : decide (pos A ps < k) = false := decide_eq_false (by omega)
          have q4 : ¬ (A : Int) < (a : Int) := by omega
          rw [q3]
          have LKB := LKA
          have LKE := Lib.hid (lk_before (A := A) (d := d) PAT.out hkp)
          have q5 : decide (pos A ps < k + 1) = false := decide_eq_false (by omega)
          clear hov2 hane ha
          go_wp2_with (first | (refine wpList_load_row rfl 67 (.tmp 13) rfl q rfl 67 #[.int .i64 (a : Int), .slice ad pd.length cd] (0, 0) _ Y3.out Tryz.underlying67 rfl (by kernel_rfl) ?_) | (at_builtin; go_loud (refine L3.out.app (p := ⟨a, pd⟩) (dv := .slice ad pd.length cd) DV3.out DN.out LKB.out S3.out.bel.size rfl (.tmp 84) (.tmp 86) rfl rfl rfl ?_; intro b8 w8 hl8 hb8 hk8; have L8 := Lib.hid hl8; have S8 := Lib.hid (S3.out.app L3.out hb8 hk8); clear hl8 hb8 hk8)))
          go_roundw
          case rel => exact ⟨k + 1, _, by omega, by go_num, by rw [q5], by rw [LKE.out]; exact L8.out, HO2, S8.out⟩
          case measure => simp [intOf]; omega
        · have ha := PGE.out (Nat.le_of_eq hkp.symm)
          have q1 : ¬ (a : Int) < (A : Int) + (d.length : Int) := by omega
          have q3 : decide (pos A ps < k) = false := decide_eq_false (by omega)
          have q4 : (A : Int) < (a : Int) := by omega
          rw [q3]
          have LKE := Lib.hid (lk_there (A := A) (d := d) PAT.out hkp)
          have LKB := Lib.hid (show (lk A d ps k ++ [(⟨A, d⟩ : Pc)]).length ≤ 1048577 by
            have h := LKL.out (k + 1)
            have := LEN.out
            rw [LKE.out, List.length_append] at h
            simp at h
            simp; omega)
          have q5 : decide (pos A ps < k + 1) = true := decide_eq_true (by omega)
          clear hov2 hane ha hkp
          go_wp2_with (first
            | (go_at_call 16; go_loud (refine (OWN.out _ (V.out.below S3.out.bel)).mono ?_; rintro e w4 ⟨u, rfl, ho, hb⟩; obtain ⟨au, cu, hsu⟩ := own_shape ho; subst hsu; have OU := Lib.hid ho; have BU := Lib.hid hb; clear ho hb))
            | (at_builtin; go_loud (refine (L3.out.below BU.out).app (p := ⟨A, d⟩) (dv := .slice au d.length cu) (own_base OU.out (Nat.zero_le _)) (.inr fun j hj => Nat.le_trans S3.out.bel.size (OU.out.lt j hj).1) LKA.out (Nat.le_trans S3.out.bel.size BU.out.size) rfl (.tmp 77) (.tmp 82) rfl rfl rfl ?_; intro b5 w5 hl5 hb5 hk5; have L5 := Lib.hid hl5; have S5 := Lib.hid ((S3.out.below BU.out).app (L3.out.below BU.out) hb5 hk5); have DV5 := Lib.hid (own_below DV.out S5.out.bel); have Y5 := Lib.hid ((hk5 q (Nat.lt_of_lt_of_le (Array.getElem?_eq_some_iff.1 Y3.out).1 BU.out.size) (QB.out _ _ _ rfl)).trans (blk_below Y3.out BU.out)); obtain ⟨ab5, cb5, hs5⟩ := own_shape hl5.own; subst hs5; rw [show (lk A d ps k ++ [(⟨A, d⟩ : Pc)]).length = (lk A d ps k).length + 1 by simp] at L5; clear hl5 hb5 hk5))
            | (refine wpList_load_row rfl 67 (.tmp 13) rfl q rfl 67 #[.int .i64 (a : Int), .slice ad pd.length cd] (0, 0) _ Y5.out Tryz.underlying67 rfl (by kernel_rfl) ?_)
            | (at_builtin; go_loud (refine L5.out.app (p := ⟨a, pd⟩) (dv := .slice ad pd.length cd) DV5.out DN.out LKB.out S5.out.bel.size rfl (.tmp 84) (.tmp 86) rfl rfl rfl ?_; intro b8 w8 hl8 hb8 hk8; have L8 := Lib.hid hl8; have S8 := Lib.hid (S5.out.app L5.out hb8 hk8); clear hl8 hb8 hk8)))
          go_roundw
          case rel => exact ⟨k + 1, _, by omega, by go_num, by rw [q5], by rw [LKE.out]; exact L8.out, HO2, S8.out⟩
          case measure => simp [intOf]; omega
        · have ha := PGE.out (Nat.le_of_lt hkp)
          have q1 : ¬ (a : Int) < (A : Int) + (d.length : Int) := by omega
          have q3 : decide (pos A ps < k) = true := decide_eq_true hkp
          rw [q3]
          have LKB := LKA
          have LKE := Lib.hid (lk_behind (A := A) (d := d) PAT.out hkp)
          have q5 : decide (pos A ps < k + 1) = true := decide_eq_true (by omega)
          clear hov2 hane ha
          go_wp2_with (first | (refine wpList_load_row rfl 67 (.tmp 13) rfl q rfl 67 #[.int .i64 (a : Int), .slice ad pd.length cd] (0, 0) _ Y3.out Tryz.underlying67 rfl (by kernel_rfl) ?_) | (at_builtin; go_loud (refine L3.out.app (p := ⟨a, pd⟩) (dv := .slice ad pd.length cd) DV3.out DN.out LKB.out S3.out.bel.size rfl (.tmp 84) (.tmp 86) rfl rfl rfl ?_; intro b8 w8 hl8 hb8 hk8; have L8 := Lib.hid hl8; have S8 := Lib.hid (S3.out.app L3.out hb8 hk8); clear hl8 hb8 hk8)))
          go_roundw
          case rel => exact ⟨k + 1, _, by omega, by go_num, by rw [q5], by rw [LKE.out]; exact L8.out, HO2, S8.out⟩
          case measure => simp [intOf]; omega
      · have HAN := Lib.hid (show ps.any (ovl A d.length) = true from List.any_eq_true.2 ⟨_, List.mem_of_getElem? PAT.out, hov⟩)
        rw [OVD.out, Bool.and_eq_true, decide_eq_true_eq, decide_eq_true_eq] at hov
        have q1 : (a : Int) < (A : Int) + (d.length : Int) := by omega
        have q2 : (A : Int) < (a : Int) + (pd.length : Int) := by omega
        have E1 := Lib.hid (show dlE x A d = 276 by rw [DLE.out, HAN.out]; rfl)
        have E2 := Lib.hid (show dlS x A d = x by unfold dlS; rw [E1.out, if_neg (by decide)])
        clear hov
        go_wp2_with (first | (refine wpList_load_row rfl 37 (.tmp 3) rfl w.heap.size rfl 37 (x.cells lv).toArray (0, 0) _ S3.out.blk Tryz.underlying37 rfl (by rw [S3.out.sz]; kernel_rfl) ?_) | (refine wpList_store_rowC rfl 37 (.tmp 6) (.tmp 68) rfl (w.heap.size + 1) (x.cells lv).toArray rfl rfl 37 _ S3.out.res (by rw [S3.out.sz]; kernel_rfl) (by rw [S3.out.sz]; rfl) S3.out.all ?_; intro w9 h9 hc; have X9 := Lib.hid h9; have C9 := Lib.hid hc; clear h9 hc))
        (refine bodyPost_ret (results_row_tmp rfl _ _ (w.heap.size + 1) 37 _ (0, 0) _ rfl X9.out Tryz.underlying37 rfl (by rw [S3.out.sz]; kernel_rfl)) rfl ?_)
        show RDPost x dvs A d w _ _
        unfold RDPost
        rw [E1.out, E2.out]
        exact ⟨lv, dvs, rfl, by rw [PSE.out]; exact HP.out.below (S3.out.ret C9.out), fun dv h => .inl h, S3.out.ret C9.out⟩
    · obtain rfl : k = m := by omega
      have htk : ps.take k = ps := List.take_of_length_le (by rw [HM.out]; omega)
      have HAN := Lib.hid (show ps.any (ovl A d.length) = false by have h := HO.out; rw [htk] at h; exact h)
      have E1 := Lib.hid (show dlE x A d = 0 by rw [DLE.out, HAN.out]; rfl)
      have E2 := Lib.hid (show dlS x A d = { x with ps := ins A d ps } by unfold dlS; rw [E1.out, if_pos rfl, PSE.out])
      have LKA := Lib.hid (show (lk A d ps k).length ≤ 1048577 by have := LKL.out k; have := LEN.out; omega)
      clear htk
      by_cases hpm : pos A ps < k
      · have q3 : decide (pos A ps < k) = true := decide_eq_true hpm
        rw [q3]
        have LKE := Lib.hid (show lk A d ps k = ins A d ps by have h := lk_end (A := A) (d := d) (ps := ps) (by rw [HM.out]; exact hpm); rw [HM.out] at h; exact h)
        clear hpm q3
        have z13 := S1.out.blk.fz 13
        obtain ⟨W6, hW6⟩ : ∃ V, V = wr.setCell ⟨w.heap.size, 13, none⟩ (.slice ab (lk A d ps k).length cb) := ⟨_, rfl⟩
        have PC6 := Lib.hid (show PcsAt 67 W6 (ins A d ps) (.slice ab (lk A d ps k).length cb) _ by rw [hW6, ← LKE.out]; exact L1.out.pcs.set S1.out.blk (by decide) (by decide) (Chg.setCell (B := fun k => k = w.heap.size) (p := ⟨w.heap.size, 13, none⟩) _ rfl _))
        have ND6 := Lib.hid L1.out.new
        have S6 := Lib.hid (show Rf2 w W6 { x with ps := ins A d ps } (.slice ab (lk A d ps k).length cb) by rw [hW6]; exact S1.out.setpcs _ _ rfl)
        obtain ⟨x6, hx6⟩ : ∃ z : St, { x with ps := ins A d ps } = z := ⟨_, rfl⟩
        rw [hx6] at S6
        have HX6 := Lib.hid hx6
        have PS6 := Lib.hid (show x6.ps = ins A d ps by rw [← hx6])
        have HW6 := Lib.hid hW6
        obtain ⟨lv6, hlv6⟩ : ∃ z, Value.slice ab (lk A d ps k).length cb = z := ⟨_, rfl⟩
        rw [hlv6] at S6 PC6 HW6
        have HLV6 := Lib.hid hlv6
        clear hW6 hx6 hlv6
        go_upto_region 18 with fail
        go_upto_region 19 with fail
        rw [HLV6.out, ← HW6.out]
        clear c13 z13
        go_wp2_with (first | (refine wpList_load_row rfl 37 (.tmp 3) rfl w.heap.size rfl 37 (x6.cells lv6).toArray (0, 0) _ S6.out.blk Tryz.underlying37 rfl (by rw [S6.out.sz]; kernel_rfl) ?_) | (refine wpList_store_rowC rfl 37 (.tmp 6) (.tmp 99) rfl (w.heap.size + 1) (x6.cells lv6).toArray rfl rfl 37 _ S6.out.res (by rw [S6.out.sz]; kernel_rfl) (by rw [S6.out.sz]; rfl) S6.out.all ?_; intro w9 h9 hc; have X9 := Lib.hid h9; have C9 := Lib.hid hc; clear h9 hc))
        (refine bodyPost_ret (results_row_tmp rfl _ _ (w.heap.size + 1) 37 _ (0, 0) _ rfl X9.out Tryz.underlying37 rfl (by rw [S6.out.sz]; kernel_rfl)) rfl ?_)
        show RDPost x dvs A d w _ _
        unfold RDPost
        rw [E1.out, E2.out, HX6.out]
        exact ⟨lv6, _, rfl, by rw [PS6.out]; exact PC6.out.set S6.out.res (by decide) (by decide) C9.out, ND6.out, S6.out.ret C9.out⟩
      · have q3 : decide (pos A ps < k) = false := decide_eq_false hpm
        rw [q3]
        have hpk : pos A ps = k := by have := POS.out; rw [HM.out] at this; omega
        have LKE := Lib.hid (show lk A d ps k ++ [⟨A, d⟩] = ins A d ps by have h := lk_end_no (A := A) (d := d) (ps := ps) (by rw [HM.out]; exact hpk); rw [HM.out] at h; exact h)
        clear hpm q3 hpk
        go_upto_region 18 with (first
          | (go_at_call 16; go_loud (refine (OWN.out _ (V.out.below S1.out.bel)).mono ?_; rintro e w4 ⟨u, rfl, ho, hb⟩; obtain ⟨au, cu, hsu⟩ := own_shape ho; subst hsu; have OU := Lib.hid ho; have BU := Lib.hid hb; clear ho hb))
          | (at_builtin; go_loud (refine (L1.out.below BU.out).app (p := ⟨A, d⟩) (dv := .slice au d.length cu) (own_base OU.out (Nat.zero_le _)) (.inr fun j hj => Nat.le_trans S1.out.bel.size (OU.out.lt j hj).1) LKA.out (Nat.le_trans S1.out.bel.size BU.out.size) rfl (.tmp 90) (.tmp 95) rfl rfl rfl ?_; intro b5 w5 hl5 hb5 hk5; have L5 := Lib.hid hl5; have S5 := Lib.hid ((S1.out.below BU.out).app (L1.out.below BU.out) hb5 hk5); obtain ⟨ab5, cb5, hs5⟩ := own_shape hl5.own; subst hs5; rw [show (lk A d ps k ++ [(⟨A, d⟩ : Pc)]).length = (lk A d ps k).length + 1 by simp] at L5; clear hl5 hb5 hk5)))
        clear c13
        have c13 : w5.cell? ⟨w.heap.size, 13, none⟩ = some (.slice al k cl) := by rw [← HLV.out]; exact S5.out.blk.cpc HL.out
        have z13 := S5.out.blk.fz 13
        obtain ⟨W6, hW6⟩ : ∃ V, V = w5.setCell ⟨w.heap.size, 13, none⟩ (.slice ab5 ((lk A d ps k).length + 1) cb5) := ⟨_, rfl⟩
        have PC6 := Lib.hid (show PcsAt 67 W6 (ins A d ps) (.slice ab5 ((lk A d ps k).length + 1) cb5) _ by rw [hW6, ← LKE.out]; exact L5.out.pcs.set S5.out.blk (by decide) (by decide) (Chg.setCell (B := fun k => k = w.heap.size) (p := ⟨w.heap.size, 13, none⟩) _ rfl _))
        have ND6 := Lib.hid L5.out.new
        have S6 := Lib.hid (show Rf2 w W6 { x with ps := ins A d ps } (.slice ab5 ((lk A d ps k).length + 1) cb5) by rw [hW6]; exact S5.out.setpcs _ _ rfl)
        obtain ⟨x6, hx6⟩ : ∃ z : St, { x with ps := ins A d ps } = z := ⟨_, rfl⟩
        rw [hx6] at S6
        have HX6 := Lib.hid hx6
        have PS6 := Lib.hid (show x6.ps = ins A d ps by rw [← hx6])
        have HW6 := Lib.hid hW6
        obtain ⟨lv6, hlv6⟩ : ∃ z, Value.slice ab5 ((lk A d ps k).length + 1) cb5 = z := ⟨_, rfl⟩
        rw [hlv6] at S6 PC6 HW6
        have HLV6 := Lib.hid hlv6
        clear hW6 hx6 hlv6
        go_upto_region 19 with fail
        rw [HLV6.out, ← HW6.out]
        clear c13 z13
        go_wp2_with (first | (refine wpList_load_row rfl 37 (.tmp 3) rfl w.heap.size rfl 37 (x6.cells lv6).toArray (0, 0) _ S6.out.blk Tryz.underlying37 rfl (by rw [S6.out.sz]; kernel_rfl) ?_) | (refine wpList_store_rowC rfl 37 (.tmp 6) (.tmp 99) rfl (w.heap.size + 1) (x6.cells lv6).toArray rfl rfl 37 _ S6.out.res (by rw [S6.out.sz]; kernel_rfl) (by rw [S6.out.sz]; rfl) S6.out.all ?_; intro w9 h9 hc; have X9 := Lib.hid h9; have C9 := Lib.hid hc; clear h9 hc))
        (refine bodyPost_ret (results_row_tmp rfl _ _ (w.heap.size + 1) 37 _ (0, 0) _ rfl X9.out Tryz.underlying37 rfl (by rw [S6.out.sz]; kernel_rfl)) rfl ?_)
        show RDPost x dvs A d w _ _
        unfold RDPost
        rw [E1.out, E2.out, HX6.out]
        exact ⟨lv6, _, rfl, by rw [PS6.out]; exact PC6.out.set S6.out.res (by decide) (by decide) C9.out, ND6.out, S6.out.ret C9.out⟩
end Go.Proofs.YtabfmhlhdebcpaaGreatDoor
