/- The walks of package digest: the tables. -/
import Derived.Test.YtpobkgkjfebhgaaDigestA
import Derived.Lib.Hide
import Derived.Laws.CopyOwn
namespace Go.Proofs.Ytpobkgkjfebhgaa
open Go.RowKit
set_option linter.unusedVariables false
set_option linter.unusedSimpArgs false

def Z32 : Array Value := Array.replicate 256 (.int .u32 0)
def Z16 : Array Value := Array.replicate 256 (.int .u16 0)
theorem zero_t16 (w : World) : (zeroValue 87).run Try.prog w = .ok (.agg Z16) w := by kernel_rfl
/-- The entries of the tables. -/
def ent32 (k : Int) : Int := uv (Dig.r8 (BitVec.ofInt 32 k))
def ent16 (k : Int) : Int := uv (Dig.l8 (BitVec.ofInt 16 k <<< 8))
/-- The tables. -/
def IsTab (i : IntKind) (ent : Int → Int) (t : Array Value) : Prop := t.size = 256 ∧ ∀ j : Nat, j < 256 → t[j]? = some (.int i (ent j))

theorem of16_any (k : Int) (w : World) :
    Calls Try.prog 40 #[.int .i64 k] w fun e w' => e = .returned (.int .u16 (ent16 k)) ∧ w = w' := by
  go_enter Try.func40, Try.ntmps40
  go_wp2_with (go_at_call 41; refine (left_any _ _).mono ?_; rintro e w' ⟨rfl, rfl⟩)
  go_ret
  exact ⟨rfl, rfl⟩

theorem cell_in {w : World} {g k : Nat} {cs : Array Value} {t : TypeId} {fr : Nat × Nat} (hh : w.heap[g]? = some (.cells cs t fr)) (hk : k < cs.size) : ∃ v, w.cell? ⟨g, k, none⟩ = some v := by
  rw [cell_of_row w g k cs t fr hh, Array.getElem?_eq_getElem hk]; exact ⟨_, rfl⟩
theorem tab_step {i : IntKind} {ent : Int → Int} {cur : Array Value} {k : Nat} (hk : k < 256) (hs : cur.size = 256) (h : ∀ j : Nat, j < k → cur[j]? = some (.int i (ent j))) :
    (cur.setIfInBounds k (.int i (ent k))).size = 256 ∧ ∀ j : Nat, j < k + 1 → (cur.setIfInBounds k (.int i (ent k)))[j]? = some (.int i (ent j)) := by
  refine ⟨by simp [hs], fun j hj => ?_⟩
  by_cases e : j = k
  · subst e; simp [hs, hk]
  · rw [Array.getElem?_setIfInBounds_ne (by omega)]; exact h j (by omega)

theorem tab_cells {k : IntKind} {f : Int → Int} {cur : Array Value} (hs : cur.size = 256) (h : ∀ j : Nat, j < 256 → cur[j]? = some (.int k (f j))) : cur.all (·.oneCell') = true := by
  rw [Array.all_eq_true]
  intro i hi
  have := h i (by omega)
  rw [Array.getElem?_eq_getElem hi] at this
  simp only [Option.some.injEq] at this
  rw [this]; rfl

set_option maxRecDepth 10000 in
theorem table16_any (w : World) :
    Calls Try.prog 39 #[.func (.func 40) #[] #[]] w fun e w' => ∃ t, e = .returned (.agg t) ∧ IsTab .u16 ent16 t ∧ Below w.heap.size w w' := by
  have hz := fun w => zero_t16 w
  have h0 : (w.alloc (.cells Z16 87)).heap[w.heap.size]? = some (.cells Z16 87 (0, 0)) := heap_alloc_new _ _
  have hb0 : Below w.heap.size w (w.alloc (.cells Z16 87)) := (Below.refl _ _).alloc (Nat.le_refl _) _
  go_enter Try.func39, Try.ntmps39
  go_wp2_with fail
  go_loopw [4] (fun i wr => ∃ k : Nat, k ≤ 256 ∧ i = .int .i64 k ∧ ∃ cur, wr.heap[w.heap.size]? = some (.cells cur 87 (0, 0)) ∧ cur.size = 256 ∧ (∀ j : Nat, j < k → cur[j]? = some (.int .u16 (ent16 j))) ∧ Below w.heap.size w wr) (fun i _ => 256 - (intOf i).toNat)
  case atStart => exact ⟨0, by omega, rfl, Z16, h0, by simp [Z16], fun j hj => absurd hj (by omega), hb0⟩
  case round =>
    obtain ⟨k, hk, rfl, cur, hh, hs, hj, hb⟩ := hrel
    clear h0 hb0 hz
    by_cases hlt : k < 256
    · obtain ⟨v, hc⟩ := cell_in hh (show k < cur.size by omega)
      have hf := frozen_of_row wr w.heap.size k cur _ hh
      have HH := Lib.hid hh; clear hh
      have HS := Lib.hid hs; clear hs
      have HJ := Lib.hid hj; clear hj
      go_wp2_with (go_at_call 40; refine (of16_any _ _).mono ?_; rintro e w' ⟨rfl, rfl⟩)
      go_roundw
      case rel => exact ⟨k + 1, by omega, by go_num, _, heap_setCell_same _ _ _ _ _ _ HH.out, (tab_step hlt HS.out HJ.out).1, (tab_step hlt HS.out HJ.out).2, hb.setCell (Nat.le_refl _) _⟩
      case measure => simp [intOf]; omega
    · obtain rfl : k = 256 := by omega
      have HH := Lib.hid hh; clear hh
      have HS := Lib.hid hs; clear hs
      have HJ := Lib.hid hj; clear hj
      go_wp2_with (first
        | (refine wpList_load_row rfl 87 _ rfl w.heap.size rfl 87 cur (0, 0) _ HH.out Try.underlying87 rfl (by rw [HS.out]; kernel_rfl) ?_)
        | (refine wpList_store_row rfl 87 (.tmp 2) (.tmp 13) rfl w.heap.size cur rfl rfl 87 cur HH.out (by rw [HS.out]; kernel_rfl) rfl (tab_cells HS.out HJ.out) ?_))
      exact bodyPost_ret (v := .agg cur) (results_cell_row rfl _ _ w.heap.size 87 cur (0, 0) _ rfl (setRow_heap _ _ _ _ _ _ HH.out) Try.underlying87 rfl (by rw [HS.out]; kernel_rfl)) rfl ⟨cur, rfl, ⟨HS.out, HJ.out⟩, below_setRow hb (Nat.le_refl _) _⟩
end Go.Proofs.Ytpobkgkjfebhgaa
