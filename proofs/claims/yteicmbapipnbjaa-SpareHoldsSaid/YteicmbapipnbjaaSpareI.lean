/- Descriptions of pages: the walk of spare.Decode. -/
import Derived.Test.YteicmbapipnbjaaSpareH
namespace Go.Proofs.Yteicmbapipnbjaa
open Go.RowKit
set_option linter.unusedVariables false
set_option linter.unusedSimpArgs false
theorem row6 {w : World} {S : Nat} {T : TypeId} {c0 c1 c2 c3 c4 c5 : Value} (h : w.heap[S]? = some (.cells #[c0, c1, c2, c3, c4, c5] T (0, 0))) :
    w.cell? ⟨S, 0, none⟩ = some c0 ∧ w.cell? ⟨S, 1, none⟩ = some c1 ∧ w.cell? ⟨S, 2, none⟩ = some c2 ∧ w.cell? ⟨S, 3, none⟩ = some c3 ∧ w.cell? ⟨S, 4, none⟩ = some c4 ∧ w.cell? ⟨S, 5, none⟩ = some c5 :=
  ⟨(cell_of_row _ _ 0 _ _ _ h).trans rfl, (cell_of_row _ _ 1 _ _ _ h).trans rfl, (cell_of_row _ _ 2 _ _ _ h).trans rfl, (cell_of_row _ _ 3 _ _ _ h).trans rfl, (cell_of_row _ _ 4 _ _ _ h).trans rfl, (cell_of_row _ _ 5 _ _ _ h).trans rfl⟩
theorem door_bad (n : Int) (w W : World) (S E : Nat) (c0 c1 c2 c3 c4 c5 x : Value) (tmps : Array Value) (h4 : tmps.getD 4 undef = .pointer (some ⟨S, 0, none⟩)) (h5 : tmps.getD 5 undef = .pointer (some ⟨E, 0, none⟩))
    (hS : W.heap[S]? = some (.cells #[c0, c1, c2, c3, c4, c5] 25 (0, 0))) (hE : W.heap[E]? = some (.cells #[x] 28 (0, 0))) (hne : S ≠ E) (hb : Below w.heap.size w W) (hSw : w.heap.size ≤ S) (hEw : w.heap.size ≤ E) :
    bodyPostD Try.prog Try.f15 (fun e w' => e = .returned (.tuple #[.agg #[.int .u8 0, .int .i64 0, .int .u64 0, .int .u64 0, .int .i64 0, .int .i64 0], .int .i64 n]) ∧ Below w.heap.size w w') (Exit.panic [{ v := .iface 28 (.int .i64 n), recovered := false }])
      { tmps := tmps, defers := [{ target := Target.fn (Fn.func 25) #[.pointer (some ⟨S, 0, none⟩), .pointer (some ⟨E, 0, none⟩)], args := #[] }] } W := by
  refine leaves_cons (f := 25) (args := #[.pointer (some ⟨S, 0, none⟩), .pointer (some ⟨E, 0, none⟩)]) (by simp) (by simp [go_sem]) ?_
  refine (catch_panicking S E n c0 c1 c2 c3 c4 c5 x [] W hS hE hne).mono ?_
  rintro e u' w'' ⟨rfl, rfl, qS, qE, hc⟩
  obtain ⟨f0, f1, f2, f3, f4, f5⟩ := row6 qS
  have g0 : w''.cell? ⟨E, 0, none⟩ = some (.int .i64 n) := (cell_of_row _ _ 0 _ _ _ qE).trans rfl
  have hB : Below w.heap.size w w'' := Chg.new hc hb (fun k hk => by rcases hk with rfl | rfl <;> assumption)
  clear qS qE hc hS hE
  simp at h4 h5
  simp [Leaves, settle, results, Try.results15, go_sem, h4, h5, f0, f1, f2, f3, f4, f5, g0, hB]
theorem door_good (n : Int) (w W : World) (S E : Nat) (c0 c1 c2 c3 c4 c5 x : Value) (tmps : Array Value) (h4 : tmps.getD 4 undef = .pointer (some ⟨S, 0, none⟩)) (h5 : tmps.getD 5 undef = .pointer (some ⟨E, 0, none⟩))
    (hS : W.heap[S]? = some (.cells #[c0, c1, c2, c3, c4, c5] 25 (0, 0))) (hE : W.heap[E]? = some (.cells #[x] 28 (0, 0))) (hb : Below w.heap.size w W) :
    bodyPostD Try.prog Try.f15 (fun e w' => e = .returned (.tuple #[.agg #[c0, c1, c2, c3, c4, c5], x]) ∧ Below w.heap.size w w') Exit.ret
      { tmps := tmps, defers := [{ target := Target.fn (Fn.func 25) #[.pointer (some ⟨S, 0, none⟩), .pointer (some ⟨E, 0, none⟩)], args := #[] }] } W := by
  refine leaves_cons (f := 25) (args := #[.pointer (some ⟨S, 0, none⟩), .pointer (some ⟨E, 0, none⟩)]) (by simp) (by simp [go_sem]) ?_
  refine (catch_idle _ _ W).mono ?_
  rintro e u' w'' ⟨rfl, rfl, rfl⟩
  obtain ⟨f0, f1, f2, f3, f4, f5⟩ := row6 hS
  have g0 : w''.cell? ⟨E, 0, none⟩ = some x := (cell_of_row _ _ 0 _ _ _ hE).trans rfl
  clear hS hE
  simp at h4 h5
  simp [Leaves, settle, results, Try.results15, go_sem, h4, h5, f0, f1, f2, f3, f4, f5, g0, hb]
theorem Decode5_len (v u : Value) (b : List (BitVec 8)) (w : World) (hv : BytesV w v b) (h : b.length ≠ 64) :
    Calls Try.prog 15 #[v, u] w fun e w' => e = .returned (.tuple #[.agg #[.int .u8 0, .int .i64 0, .int .u64 0, .int .u64 0, .int .i64 0, .int .i64 0], .int .i64 2]) ∧ Below w.heap.size w w' := by
  have hmf : ∀ (fn : Fn) (first cap : Array Value) (w : World), (Instr.makeFunc fn first cap).run Try.prog w = .ok (.func fn first cap) w := fun _ _ _ _ => rfl
  obtain ⟨a, cp, rfl, _⟩ := hv
  have h' : ((b.length : Int) == 64) = false := beq_eq_false_iff_ne.2 (by omega)
  clear h
  go_enter_defers Try.func15, Try.ntmps15
  go_wp2_with (go_at_call 26; refine (must_false _ _).mono ?_; rintro r w2 ⟨rfl, rfl⟩)
  refine door_bad 2 w _ w.heap.size (w.heap.size + 1) (.int .u8 0) (.int .i64 0) (.int .u64 0) (.int .u64 0) (.int .i64 0) (.int .i64 0) (.int .i64 0) _ rfl rfl ?_ ?_ (by omega) (gr_tr (gr_alloc _ _) (gr_alloc _ _)) (Nat.le_refl _) (by omega)
  · exact (heap_alloc_old _ _ (by simp)).trans (heap_alloc_new w _)
  · have := heap_alloc_new (w.alloc (.cells #[.int .u8 0, .int .i64 0, .int .u64 0, .int .u64 0, .int .i64 0, .int .i64 0] 25 (0, 0))) (.cells #[.int .i64 0] 28)
    simpa using this
end Go.Proofs.Yteicmbapipnbjaa
