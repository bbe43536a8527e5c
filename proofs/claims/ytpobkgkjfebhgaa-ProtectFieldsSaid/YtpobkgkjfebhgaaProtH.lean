/- The walks of package protect: comparisons. -/
import Derived.Test.YtpobkgkjfebhgaaProtG
namespace Go.Proofs.Ytpobkgkjfebhgaa
open Go.RowKit
set_option linter.unusedVariables false
set_option linter.unusedSimpArgs false
theorem uv_ne0 {n : Nat} (x : BitVec n) : (uv x != 0) = (x != 0#n) := by
  have := uv_bne x 0#n
  simpa [uv] using this
theorem cmp1_any (p q : Nat) (g x : BitVec 16) (b : Bool) (w : World) (h1 : w.cell? ⟨p, 0, none⟩ = some (.int .u16 (uv g))) (h2 : w.cell? ⟨q, 0, none⟩ = some (.int .u16 (uv x))) (hb : (g != x) = b) :
    Calls Try.prog 18 #[.pointer (some ⟨p, 0, none⟩), .pointer (some ⟨q, 0, none⟩)] w fun e w' => e = .returned (.bool b) ∧ w = w' := by
  subst hb
  go_enter Try.func18, Try.ntmps18
  go_wp2
  go_ret
  exact ⟨rfl, rfl⟩
theorem cmp2_any (p q : Nat) (a t m : BitVec 16) (b : Bool) (w : World) (h1 : w.cell? ⟨p, 1, none⟩ = some (.int .u16 (uv a))) (h2 : w.cell? ⟨q, 3, none⟩ = some (.int .u16 (uv t))) (h3 : w.cell? ⟨q, 4, none⟩ = some (.int .u16 (uv m))) (hb : ((a ^^^ t) &&& m != 0#16) = b) :
    Calls Try.prog 19 #[.pointer (some ⟨p, 0, none⟩), .pointer (some ⟨q, 0, none⟩)] w fun e w' => e = .returned (.bool b) ∧ w = w' := by
  subst hb
  go_enter Try.func19, Try.ntmps19
  go_wp2
  go_ret
  exact ⟨by rw [← uv_ne0]; rfl, rfl⟩
theorem cmp3_any (p q s : Nat) (ty : Int) (r x : BitVec 32) (b : Bool) (w : World) (h1 : w.cell? ⟨p, 0, none⟩ = some (.int .i64 ty)) (h2 : w.cell? ⟨q, 2, none⟩ = some (.int .u32 (uv r))) (h3 : w.cell? ⟨s, 0, none⟩ = some (.int .u32 (uv x))) (hb : ((ty != 3) && (r != x)) = b) :
    Calls Try.prog 20 #[.pointer (some ⟨p, 0, none⟩), .pointer (some ⟨q, 0, none⟩), .pointer (some ⟨s, 0, none⟩)] w fun e w' => e = .returned (.bool b) ∧ w = w' := by
  subst hb
  obtain ⟨b1, hb1⟩ : ∃ b, (ty != 3) = b := ⟨_, rfl⟩
  cases b1
  all_goals
    go_enter Try.func20, Try.ntmps20
    go_wp2
    go_ret
    exact ⟨by rw [hb1]; rfl, rfl⟩
namespace Prot
def cmps (n : Nat) (cg ca cr : Bool) : Array Value :=
  #[.string ⟨#[103, 117, 97, 114, 100]⟩, .int .u8 130, .bool cg, .func (.func 18) #[] #[.pointer (some ⟨n + 1, 0, none⟩), .pointer (some ⟨n + 1 + 1, 0, none⟩)],
    .string ⟨#[97, 112, 112]⟩, .int .u8 131, .bool ca, .func (.func 19) #[] #[.pointer (some ⟨n + 1, 0, none⟩), .pointer (some ⟨n, 0, none⟩)],
    .string ⟨#[114, 101, 102]⟩, .int .u8 132, .bool cr, .func (.func 20) #[] #[.pointer (some ⟨n + 1 + 1 + 1, 0, none⟩), .pointer (some ⟨n + 1, 0, none⟩), .pointer (some ⟨n + 1 + 1 + 1 + 1, 0, none⟩)]]
structure CmpW (w : World) (n : Nat) (t m g a : BitVec 16) (r : BitVec 32) (x : BitVec 16) (ty : Int) (y : BitVec 32) : Prop where
  t : w.cell? ⟨n, 3, none⟩ = some (.int .u16 (uv t))
  m : w.cell? ⟨n, 4, none⟩ = some (.int .u16 (uv m))
  g : w.cell? ⟨n + 1, 0, none⟩ = some (.int .u16 (uv g))
  a : w.cell? ⟨n + 1, 1, none⟩ = some (.int .u16 (uv a))
  r : w.cell? ⟨n + 1, 2, none⟩ = some (.int .u32 (uv r))
  x : w.cell? ⟨n + 1 + 1, 0, none⟩ = some (.int .u16 (uv x))
  ty : w.cell? ⟨n + 1 + 1 + 1, 0, none⟩ = some (.int .i64 ty)
  y : w.cell? ⟨n + 1 + 1 + 1 + 1, 0, none⟩ = some (.int .u32 (uv y))
end Prot
set_option maxRecDepth 4000 in
theorem comparisons_any (cg ca cr : Bool) (t m g a : BitVec 16) (r : BitVec 32) (x : BitVec 16) (ty : Int) (y : BitVec 32) (w : World) :
    Calls Try.prog 7 #[.agg #[.bool cg, .bool ca, .bool cr, .int .u16 (uv t), .int .u16 (uv m)], .agg #[.int .u16 (uv g), .int .u16 (uv a), .int .u32 (uv r)], .int .u16 (uv x), .int .i64 ty, .int .u32 (uv y)] w fun e w' => e = .returned (.agg (Prot.cmps w.heap.size cg ca cr)) ∧ Prot.CmpW w' w.heap.size t m g a r x ty y ∧ Below w.heap.size w w' := by
  have hh : ((((((w.alloc (.cells #[.bool cg, .bool ca, .bool cr, .int .u16 (uv t), .int .u16 (uv m)] 24)).alloc (.cells #[.int .u16 (uv g), .int .u16 (uv a), .int .u32 (uv r)] 40)).alloc (.cells #[.int .u16 (uv x)] 22)).alloc (.cells #[.int .i64 ty] 3)).alloc (.cells #[.int .u32 (uv y)] 38)).alloc (.cells #[.string ⟨#[]⟩, .int .u8 0, .bool false, .nilFunc, .string ⟨#[]⟩, .int .u8 0, .bool false, .nilFunc, .string ⟨#[]⟩, .int .u8 0, .bool false, .nilFunc] 36)).heap[w.heap.size + 1 + 1 + 1 + 1 + 1]? = some (.cells #[.string ⟨#[]⟩, .int .u8 0, .bool false, .nilFunc, .string ⟨#[]⟩, .int .u8 0, .bool false, .nilFunc, .string ⟨#[]⟩, .int .u8 0, .bool false, .nilFunc] 36 (0, 0)) := by
    have e : w.heap.size + 1 + 1 + 1 + 1 + 1 = (((((w.alloc (.cells #[.bool cg, .bool ca, .bool cr, .int .u16 (uv t), .int .u16 (uv m)] 24)).alloc (.cells #[.int .u16 (uv g), .int .u16 (uv a), .int .u32 (uv r)] 40)).alloc (.cells #[.int .u16 (uv x)] 22)).alloc (.cells #[.int .i64 ty] 3)).alloc (.cells #[.int .u32 (uv y)] 38)).heap.size := by simp
    rw [e]; exact heap_alloc_new _ _
  have HH := Lib.hid hh; clear hh
  go_enter Try.func7, Try.ntmps7
  go_wp2_with (refine wpList_store_row rfl 36 (.tmp 10) (.tmp 26) rfl (w.heap.size + 1 + 1 + 1 + 1 + 1) (Prot.cmps w.heap.size cg ca cr) rfl rfl 36 #[.string ⟨#[]⟩, .int .u8 0, .bool false, .nilFunc, .string ⟨#[]⟩, .int .u8 0, .bool false, .nilFunc, .string ⟨#[]⟩, .int .u8 0, .bool false, .nilFunc] HH.out (by kernel_rfl) rfl (by simp [Prot.cmps, Value.oneCell']) ?_)
  have hb : Below w.heap.size w ((((((w.alloc (.cells #[.bool cg, .bool ca, .bool cr, .int .u16 (uv t), .int .u16 (uv m)] 24)).alloc (.cells #[.int .u16 (uv g), .int .u16 (uv a), .int .u32 (uv r)] 40)).alloc (.cells #[.int .u16 (uv x)] 22)).alloc (.cells #[.int .i64 ty] 3)).alloc (.cells #[.int .u32 (uv y)] 38)).alloc (.cells #[.string ⟨#[]⟩, .int .u8 0, .bool false, .nilFunc, .string ⟨#[]⟩, .int .u8 0, .bool false, .nilFunc, .string ⟨#[]⟩, .int .u8 0, .bool false, .nilFunc] 36)) := gr_tr (gr_tr (gr_tr (gr_tr (gr_tr (gr_alloc _ _) (gr_alloc _ _)) (gr_alloc _ _)) (gr_alloc _ _)) (gr_alloc _ _)) (gr_alloc _ _)
  refine bodyPost_ret (v := .agg (Prot.cmps w.heap.size cg ca cr)) (results_cell_row rfl _ _ (w.heap.size + 1 + 1 + 1 + 1 + 1) 36 _ (0, 0) _ rfl (setRow_heap _ _ _ _ _ _ HH.out) Try.underlying36 rfl (by kernel_rfl)) rfl ⟨rfl, ?_, below_setRow hb (by omega) _⟩
  constructor
  all_goals
    rw [World.cell?_of_block (w := (((((w.alloc (.cells #[.bool cg, .bool ca, .bool cr, .int .u16 (uv t), .int .u16 (uv m)] 24)).alloc (.cells #[.int .u16 (uv g), .int .u16 (uv a), .int .u32 (uv r)] 40)).alloc (.cells #[.int .u16 (uv x)] 22)).alloc (.cells #[.int .i64 ty] 3)).alloc (.cells #[.int .u32 (uv y)] 38)).alloc (.cells #[.string ⟨#[]⟩, .int .u8 0, .bool false, .nilFunc, .string ⟨#[]⟩, .int .u8 0, .bool false, .nilFunc, .string ⟨#[]⟩, .int .u8 0, .bool false, .nilFunc] 36)) (setRow_other _ _ _ _ (by dsimp only; omega))]
    simp [go_sem]
end Go.Proofs.Ytpobkgkjfebhgaa
