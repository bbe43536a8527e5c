/- Descriptions of pages: the walks of spare.must, the deferred closure, Blank and Name. -/
import Derived.Test.YteicmbapipnbjaaSpareF
import Derived.Test.YteicmbapipnbjaaWireE
import Derived.Test.YteicmbapipnbjaaWireF
import Derived.Test.YteicmbapipnbjaaWireG
import Derived.Defers
import Derived.Recover
namespace Go.Proofs.Yteicmbapipnbjaa
open Go.RowKit
set_option linter.unusedVariables false
set_option linter.unusedSimpArgs false
theorem must_true (n : Int) (w : World) :
    Calls Try.prog 26 #[.bool true, .int .i64 n] w fun e w' => e = .returned (.tuple #[]) ∧ w = w' := by
  go_enter Try.func26, Try.ntmps26
  go_wp2
  go_end0
  exact ⟨rfl, rfl⟩
theorem must_false (n : Int) (w : World) :
    Calls Try.prog 26 #[.bool false, .int .i64 n] w fun e w' => e = .panicked [{ v := .iface 28 (.int .i64 n), recovered := false }] ∧ w = w' := by
  go_enter Try.func26, Try.ntmps26
  go_wp2
  simp [bodyPost]
theorem Blank_any (v : Value) (l : List (BitVec 8)) (b : Bool) (w : World) (hv : BytesV w v l) (hb : (l.length == 64 && !l.any notFF) = b) :
    Calls Try.prog 18 #[v] w fun e w' => e = .returned (.bool b) ∧ w = w' := by
  obtain ⟨c, hc⟩ : ∃ c, l.any notFF = c := ⟨_, rfl⟩
  rw [hc] at hb
  have V := Lib.hid hv; have HC := Lib.hid hc
  obtain ⟨a, cp, rfl, _⟩ := hv
  clear hc
  by_cases h : l.length = 64
  · have h' : ((l.length : Int) == 64) = true := beq_iff_eq.2 (by omega)
    have hb : (!c) = b := by rw [← hb]; simp [h]
    have HB := Lib.hid hb
    clear hb h
    go_enter Try.func18, Try.ntmps18
    go_wp2_with (go_at_call 37; go_loud (refine (contains_blank _ l c _ V.out HC.out).mono ?_); rintro r w1 ⟨rfl, rfl⟩)
    go_ret
    exact ⟨by rw [HB.out]; rfl, rfl⟩
  · have h' : ((l.length : Int) == 64) = false := beq_eq_false_iff_ne.2 (by omega)
    have hb : b = false := by rw [← hb]; simp [h]
    subst hb
    clear h
    go_enter Try.func18, Try.ntmps18
    go_wp2
    go_ret
    exact ⟨rfl, rfl⟩
theorem blk_lt {w : World} {k : Nat} {o : Obj} (h : w.heap[k]? = some o) : k < w.heap.size := by
  rcases Nat.lt_or_ge k w.heap.size with h1 | h1
  · exact h1
  · rw [Array.getElem?_eq_none h1] at h; cases h
theorem catch_panicking (S E : Nat) (n : Int) (c0 c1 c2 c3 c4 c5 : Value) (x : Value) (older : List PanicEntry) (w : World) (hS : w.heap[S]? = some (.cells #[c0, c1, c2, c3, c4, c5] 25 (0, 0))) (hE : w.heap[E]? = some (.cells #[x] 28 (0, 0))) (hne : S ≠ E) :
    CallsD Try.prog 25 #[.pointer (some ⟨S, 0, none⟩), .pointer (some ⟨E, 0, none⟩)] (.panicking ({ v := .iface 28 (.int .i64 n), recovered := false } :: older)) w fun e u' w' =>
      e = .returned (.tuple #[]) ∧ u' = .panicking ({ v := .iface 28 (.int .i64 n), recovered := true } :: older) ∧
      w'.heap[S]? = some (.cells #[.int .u8 0, .int .i64 0, .int .u64 0, .int .u64 0, .int .i64 0, .int .i64 0] 25 (0, 0)) ∧ w'.heap[E]? = some (.cells #[.int .i64 n] 28 (0, 0)) ∧ Chg (fun b => b = S ∨ b = E) w w' := by
  have HS := Lib.hid hS; have HE := Lib.hid hE; have HN := Lib.hid hne
  have hta : ∀ t w', (Instr.typeAssert (.iface 28 (.int .i64 n)) t 28 false).run Try.prog w' = .ok (.int .i64 n) w' := fun t w' => by simp [Instr.typeAssert, run_underlying Try.underlying28]
  clear hS hE hne
  refine callsD_of_wpS Try.func25 rfl fun c₀ cs hu => ?_
  apply wpS_seq
  apply wpS_region
  simp [wpOpsS, go_sem, recoverD, hu, Try.ntmps25, Exit.thenS]
  refine wpS_of_wp ?_
  clear hu
  change Code.wp Try.prog _ _ { tmps := #[.pointer (some ⟨S, 0, none⟩), .pointer (some ⟨E, 0, none⟩), .iface 28 (.int .i64 n), .iface 28 (.int .i64 n), undef, undef, undef, undef, undef], defers := [] } w
  go_wp2_with fail
  refine wp_region_planW (fun k => k = S ∨ k = E) [(true, 0), (true, 1), (true, 2), (false, 3), (false, 4)] (by kernel_rfl) (by kernel_rfl) (by intro c a d v w h; cases d <;> exact h) ?_
  intro W1 K1 C1
  have S1 := Lib.hid ((C1.out.block S (blk_lt HS.out)).trans HS.out)
  have E1 := Lib.hid ((C1.out.block E (blk_lt HE.out)).trans HE.out)
  repeat (refine wpS_firm rfl (fun K hK => ?_); simp only [Keep]; go_simp; refine hK _ ?_; clear hK K)
  refine wpS_chain rfl ?_
  refine wpList_store_row rfl 25 (.tmp 0) (.tmp 6) rfl S #[.int .u8 0, .int .i64 0, .int .u64 0, .int .u64 0, .int .i64 0, .int .i64 0] rfl rfl 25 _ S1.out (by kernel_rfl) rfl (by simp [Value.oneCell']) ?_
  obtain ⟨w2, hw2⟩ : ∃ w2, W1.setRow S #[.int .u8 0, .int .i64 0, .int .u64 0, .int .u64 0, .int .i64 0, .int .i64 0] = w2 := ⟨_, rfl⟩
  have S2 : w2.heap[S]? = some (.cells #[.int .u8 0, .int .i64 0, .int .u64 0, .int .u64 0, .int .i64 0, .int .i64 0] 25 (0, 0)) := by rw [← hw2]; exact setRow_heap _ _ _ _ _ _ S1.out
  have E2 : w2.heap[E]? = some (.cells #[x] 28 (0, 0)) := by rw [← hw2, setRow_other _ _ _ _ (Ne.symm HN.out)]; exact E1.out
  have K2 := Lib.hid (show Keep (fun k => k = S ∨ k = E) w w2 by rw [← hw2]; exact K1.out.row (.inl rfl) _)
  have G2 := Lib.hid (show Chg (fun k => k = S ∨ k = E) w w2 by rw [← hw2]; exact (Chg.of_below C1.out).trans (Chg.setRow _ (.inl rfl) _))
  rw [hw2]
  have e0 : w2.cell? ⟨E, 0, none⟩ = some x := (cell_of_row _ _ 0 _ _ _ E2).trans rfl
  have f0 : w2.frozen? ⟨E, 0, none⟩ = false := by simp [World.frozen?, E2]
  have S2' := Lib.hid S2; have E2' := Lib.hid E2
  clear S2 E2 hw2
  go_wp2_with fail
  refine ⟨K2.out, ?_⟩
  refine wpS_chain rfl ?_
  go_wp2_with fail
  refine ⟨K2.out.put (.inr rfl) _, ?_⟩
  unfold wpS
  go_wp2_with fail
  have q1 : (w2.setCell ⟨E, 0, none⟩ (.int .i64 n)).heap[S]? = some (.cells #[.int .u8 0, .int .i64 0, .int .u64 0, .int .u64 0, .int .i64 0, .int .i64 0] 25 (0, 0)) := by rw [heap_setCell_other _ _ _ _ HN.out]; exact S2'.out
  have q2 : (w2.setCell ⟨E, 0, none⟩ (.int .i64 n)).heap[E]? = some (.cells #[.int .i64 n] 28 (0, 0)) := by
    have := heap_setCell_same w2 E 0 #[x] _ (.int .i64 n) E2'.out
    simpa using this
  have q3 : Chg (fun k => k = S ∨ k = E) w (w2.setCell ⟨E, 0, none⟩ (.int .i64 n)) := G2.out.trans (Chg.setCell _ (.inr rfl) _)
  generalize w2.setCell ⟨E, 0, none⟩ (.int .i64 n) = w3 at q1 q2 q3 ⊢
  simp [bodyPostS, results, Try.results25]
  exact ⟨q1, q2, q3⟩
theorem catch_idle (p q : Value) (w : World) :
    CallsD Try.prog 25 #[p, q] .returning w fun e u' w' => e = .returned (.tuple #[]) ∧ u' = .returning ∧ w' = w := by
  refine callsD_of_wpS Try.func25 rfl fun c₀ cs hu => ?_
  apply wpS_seq
  apply wpS_region
  simp [wpOpsS, go_sem, recoverD, hu, Try.ntmps25, Exit.thenS]
  refine wpS_of_wp ?_
  change Code.wp Try.prog _ _ { tmps := #[p, q, .nilIface, .nilIface, undef, undef, undef, undef, undef], defers := [] } w
  go_wp2
  cases c₀
  simp_all [bodyPostS, results, Try.results25]
end Go.Proofs.Yteicmbapipnbjaa
