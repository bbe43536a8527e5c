/- The walks of package digest: the exported functions. -/
import Derived.Test.YtpobkgkjfebhgaaDigestC
namespace Go.Proofs.Ytpobkgkjfebhgaa
open Go.RowKit
set_option linter.unusedVariables false
set_option linter.unusedSimpArgs false

theorem tab16_of {w : World} {T : Nat} {t : Array Value} {ty : TypeId} {fr : Nat × Nat} (hh : w.heap[T]? = some (.cells t ty fr)) (ht : IsTab .u16 ent16 t) : Tab16 w T := by
  intro i
  have hi := nv8_lt i
  rw [cell_of_row w T (nv i) t ty fr hh, ht.2 _ hi]
  simp only [ent16, nv]
  congr 5
  apply BitVec.eq_of_toNat_eq; simp
theorem fl32_up (s : BitVec 32) (ls : List (List (BitVec 8))) : fl32 s ls = Dig.up32 s ls.flatten := by
  induction ls generalizing s with
  | nil => rfl
  | cons l r ih =>
    rw [List.flatten_cons, Dig.up32_app, ← ih, ← Dig.up32_ps]; rfl
theorem fl16_up (s : BitVec 16) (ls : List (List (BitVec 8))) : fl16 s ls = Dig.up16 s ls.flatten := by
  induction ls generalizing s with
  | nil => rfl
  | cons l r ih =>
    rw [List.flatten_cons, Dig.up16_app, ← ih, ← Dig.up16_ps]; rfl

set_option maxRecDepth 10000 in
theorem update16_any (s : BitVec 16) (v : Value) (ls : List (List (BitVec 8))) (w : World) (hp : PartsV w v ls) :
    Calls Try.prog 38 #[.int .u16 (uv s), v] w fun e w' => e = .returned (.int .u16 (uv (Dig.up16 s ls.flatten))) ∧ Below w.heap.size w w' := by
  have hz := fun w => zero_t16 w
  go_enter Try.func38, Try.ntmps38
  go_wp2_with (first
    | (go_at_call 39; refine (table16_any _).mono ?_; rintro e w1 ⟨t, rfl, hist, hb⟩; have HI := Lib.hid hist; clear hist)
    | (refine wpList_store_row rfl 87 (.tmp 5) (.tmp 6) rfl _ t rfl rfl 87 Z16 (heap_alloc_new _ _) (by rw [HI.out.1]; kernel_rfl) (by rw [HI.out.1]; rfl) (tab_cells HI.out.1 HI.out.2) ?_; have HT := Lib.hid (tab16_of (setRow_heap _ _ _ t 87 _ (heap_alloc_new w1 (.cells Z16 87))) HI.out); have HB := Lib.hid (below_setRow (hb.alloc hb.size (.cells Z16 87)) hb.size t); generalize (w1.alloc (.cells Z16 87)).setRow w1.heap.size t = w2 at *)
    | (go_at_call 42; refine (updated16_any _ _ ls _ _ (hp.below HB.out) HT.out).mono ?_; rintro e w' ⟨rfl, rfl⟩))
  go_ret
  exact ⟨by rw [← fl16_up]; rfl, HB.out⟩

theorem update16_at (n : Int) (s : BitVec 16) (v : Value) (ls : List (List (BitVec 8))) (w : World) (hn : n = uv s) (hp : PartsV w v ls) :
    Calls Try.prog 38 #[.int .u16 n, v] w fun e w' => e = .returned (.int .u16 (uv (Dig.up16 s ls.flatten))) ∧ Below w.heap.size w w' := by
  subst hn; exact update16_any s v ls w hp

theorem not32 (x : BitVec 32) : BitVec.ofInt 32 IntKind.u32.max ^^^ x = ~~~ x := by
  rw [show BitVec.ofInt 32 IntKind.u32.max = BitVec.allOnes 32 by decide, BitVec.xor_comm]
  exact BitVec.xor_allOnes
theorem PartsV.one {w : World} {v : Value} {l : List (BitVec 8)} (h : BytesV w v l) (ty : TypeId) : PartsV (w.alloc (.cells #[v] ty)) (.slice (some ⟨w.heap.size, 0, none⟩) 1 1) [l] := by
  have hb : Below w.heap.size w (w.alloc (.cells #[v] ty)) := (Below.refl _ _).alloc (Nat.le_refl _) _
  refine ⟨_, 1, [v], rfl, by simp, by simp, by omega, .inr ⟨w.heap.size, 0, rfl, fun i hi => ?_⟩, rfl, fun i l' h' => ?_⟩
  · obtain rfl : i = 0 := by simpa using hi
    rw [cell_of_row _ _ _ _ _ _ (heap_alloc_new w (.cells #[v] ty))]; rfl
  · match i, h' with
    | 0, h' => simp at h'; subst h'; exact ⟨v, rfl, h.below hb⟩
    | i + 1, h' => simp at h'
theorem Sum16_any (v : Value) (ls : List (List (BitVec 8))) (w : World) (hp : PartsV w v ls) :
    Calls Try.prog 35 #[v] w fun e w' => e = .returned (.int .u16 (uv (Dig.crc16 ls.flatten))) ∧ Below w.heap.size w w' := by
  go_enter Try.func35, Try.ntmps35
  go_wp2_with (go_at_call 38; refine (update16_at _ 0#16 _ ls _ (by decide) hp).mono ?_; rintro e w1 ⟨rfl, hb⟩)
  go_ret
  exact ⟨rfl, hb⟩

theorem CRC16_any (v : Value) (l : List (BitVec 8)) (w : World) (hp : BytesV w v l) :
    Calls Try.prog 30 #[v] w fun e w' => e = .returned (.int .u16 (uv (Dig.crc16 l))) ∧ Below w.heap.size w w' := by
  have HP := Lib.hid (PartsV.one hp 46)
  obtain ⟨a, c, rfl, _, _, _, _⟩ := hp
  go_enter Try.func30, Try.ntmps30
  go_wp2_with (go_at_call 35; refine (Sum16_any _ [l] _ HP.out).mono ?_; rintro e w1 ⟨rfl, hb⟩)
  go_ret
  exact ⟨rfl, ((Below.refl _ _).alloc (Nat.le_refl _) _).trans (hb.mono (by simp))⟩
end Go.Proofs.Ytpobkgkjfebhgaa
