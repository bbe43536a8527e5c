/- The walks of package protect: Decode, escapes, Tag. -/
import Derived.Test.YtpobkgkjfebhgaaProtC
namespace Go.Proofs.Ytpobkgkjfebhgaa
open Go.RowKit
set_option linter.unusedVariables false
set_option linter.unusedSimpArgs false

namespace Prot
def tg (l : List (BitVec 8)) : BitVec 16 := (val (l.take 2)).setWidth 16
def ta (l : List (BitVec 8)) : BitVec 16 := (val ((l.drop 2).take 2)).setWidth 16
def tr (l : List (BitVec 8)) : BitVec 32 := (val (l.drop 4)).setWidth 32
end Prot
theorem BytesV.at {w : World} {b o n c : Nat} {l : List (BitVec 8)} (h : ∀ i, i < l.length → w.cell? ⟨b, o + i, none⟩ = (by8 l)[i]?) (hn : n = l.length) (hc : n ≤ c) (hm : c ≤ 9223372036854775807) :
    BytesV w (.slice (some ⟨b, o, none⟩) n c) l := by
  subst hn
  exact ⟨_, _, rfl, by simp, hc, hm, .inr ⟨b, o, rfl, fun i hi => h i (by simpa using hi)⟩⟩
set_option maxHeartbeats 400000 in
theorem Decode_any (l : List (BitVec 8)) (w : World) (hl : l.length = 8) :
    Calls Try.prog 29 #[.agg (by8 l).toArray] w fun e w' => e = .returned (.agg #[.int .u16 (uv (Prot.tg l)), .int .u16 (uv (Prot.ta l)), .int .u32 (uv (Prot.tr l))]) ∧ Below w.heap.size w w' := by
  obtain ⟨x0, x1, x2, x3, x4, x5, x6, x7, rfl⟩ : ∃ x0 x1 x2 x3 x4 x5 x6 x7, l = [x0, x1, x2, x3, x4, x5, x6, x7] := by
    match l, hl with
    | [x0, x1, x2, x3, x4, x5, x6, x7], _ => exact ⟨_, _, _, _, _, _, _, _, rfl⟩
  clear hl
  show Calls _ _ #[.agg #[.int .u8 (uv x0), .int .u8 (uv x1), .int .u8 (uv x2), .int .u8 (uv x3), .int .u8 (uv x4), .int .u8 (uv x5), .int .u8 (uv x6), .int .u8 (uv x7)]] _ _
  obtain ⟨W, hW⟩ : ∃ W, W = (w.alloc (.cells #[.int .u8 (uv x0), .int .u8 (uv x1), .int .u8 (uv x2), .int .u8 (uv x3), .int .u8 (uv x4), .int .u8 (uv x5), .int .u8 (uv x6), .int .u8 (uv x7)] 51)).alloc (.cells #[.int .u16 0, .int .u16 0, .int .u32 0] 40) := ⟨_, rfl⟩
  have hsz : W.heap.size = w.heap.size + 2 := by subst hW; simp
  have hbW : Below w.heap.size w W := by subst hW; exact gr_tr (gr_alloc _ _) (gr_alloc _ _)
  have hWb : W.heap[w.heap.size + 1]? = some (.cells #[.int .u16 0, .int .u16 0, .int .u32 0] 40 (0, 0)) := by subst hW; exact heap_alloc2_new _ _ _
  have v1 : BytesV W (.slice (some ⟨w.heap.size, 0, none⟩) 2 8) [x0, x1] := BytesV.at (by
    subst hW; intro i hi
    match i, hi with
    | 0, _ => simp [go_sem, by8]
    | 1, _ => simp [go_sem, by8]) rfl (by omega) (by omega)
  have v2 : BytesV W (.slice (some ⟨w.heap.size, 2, none⟩) 2 6) [x2, x3] := BytesV.at (by
    subst hW; intro i hi
    match i, hi with
    | 0, _ => simp [go_sem, by8]
    | 1, _ => simp [go_sem, by8]) rfl (by omega) (by omega)
  have v3 : BytesV W (.slice (some ⟨w.heap.size, 4, none⟩) 4 4) [x4, x5, x6, x7] := BytesV.at (by
    subst hW; intro i hi
    match i, hi with
    | 0, _ => simp [go_sem, by8]
    | 1, _ => simp [go_sem, by8]
    | 2, _ => simp [go_sem, by8]
    | 3, _ => simp [go_sem, by8]) rfl (by omega) (by omega)
  have V1 := Lib.hid v1; clear v1
  have V2 := Lib.hid v2; clear v2
  have V3 := Lib.hid v3; clear v3
  have HSZ := Lib.hid hsz; clear hsz
  have HBW := Lib.hid hbW; clear hbW
  have HWB := Lib.hid hWb; clear hWb
  have HW := Lib.hid hW; clear hW
  go_enter Try.func29, Try.ntmps29
  go_wp2_with fail
  rw [← HW.out]
  refine wp_region_plan (Keep (fun k => k = w.heap.size + 1) W) [(true, 0), (true, 3), (true, 6), (false, 1), (true, 2), (false, 4), (true, 5), (false, 7), (true, 8), (true, 9), (false, 10)]
    (by kernel_rfl) (by kernel_rfl) (by intro c a d v w h; cases d <;> exact h) (Keep.start _ _) ?_
  repeat (refine wpS_firm rfl (fun K hK => ?_); simp only [Keep]; go_simp; refine hK _ ?_; clear hK K)
  refine wpS_chain rfl ?_
  go_wp2_with (go_at_call 34; refine (low_any _ _ _ (V1.out.below (gr_drew W)) (by simp) (by simp)).mono ?_; rintro e w1 ⟨rfl, h1⟩)
  have K1 := Lib.hid ((Keep.start (fun k => k = w.heap.size + 1) W).below h1)
  have B1 := Lib.hid (gr_tr (gr_drew W) h1); clear h1
  refine ⟨K1.out, ?_⟩
  repeat (refine wpS_firm rfl (fun K hK => ?_); simp only [Keep]; go_simp; refine hK _ ?_; clear hK K)
  refine wpS_chain rfl ?_
  go_wp2_with (go_at_call 34; refine (low_any _ _ _ (V2.out.below B1.out) (by simp) (by simp)).mono ?_; rintro e w2 ⟨rfl, h1⟩)
  have K2 := Lib.hid (K1.out.below h1)
  have B2 := Lib.hid (gr_tr B1.out h1); clear h1
  refine ⟨K2.out, ?_⟩
  repeat (refine wpS_firm rfl (fun K hK => ?_); simp only [Keep]; go_simp; refine hK _ ?_; clear hK K)
  refine wpS_chain rfl ?_
  go_wp2_with (go_at_call 34; refine (low_any _ _ _ (V3.out.below B2.out) (by simp) (by simp)).mono ?_; rintro e w3 ⟨rfl, h1⟩)
  have K3 := Lib.hid (K2.out.below h1)
  have B3 := Lib.hid (gr_tr B2.out h1); clear h1
  refine ⟨K3.out, ?_⟩
  repeat (refine wpS_firm rfl (fun K hK => ?_); simp only [Keep]; go_simp; refine hK _ ?_; clear hK K)
  have hW3 : w3.heap[w.heap.size + 1]? = some (.cells #[.int .u16 0, .int .u16 0, .int .u32 0] 40 (0, 0)) := by
    rw [B3.out.block _ (by rw [HSZ.out]; omega)]; exact HWB.out
  have HW3 := Lib.hid hW3; clear hW3
  obtain ⟨g, hg⟩ : ∃ g, g = Prot.tg [x0, x1, x2, x3, x4, x5, x6, x7] := ⟨_, rfl⟩
  obtain ⟨a, ha⟩ : ∃ a, a = Prot.ta [x0, x1, x2, x3, x4, x5, x6, x7] := ⟨_, rfl⟩
  obtain ⟨r, hr⟩ : ∃ r, r = Prot.tr [x0, x1, x2, x3, x4, x5, x6, x7] := ⟨_, rfl⟩
  change g = BitVec.setWidth 16 (Prot.val [x0, x1]) at hg
  change a = BitVec.setWidth 16 (Prot.val [x2, x3]) at ha
  change r = BitVec.setWidth 32 (Prot.val [x4, x5, x6, x7]) at hr
  rw [← hg, ← ha, ← hr]
  have HG := Lib.hid hg; clear hg
  have HA := Lib.hid ha; clear ha
  have HR := Lib.hid hr; clear hr
  refine wpS_chain rfl ?_
  refine wpList_store_row rfl 40 (.tmp 2) (.tmp 12) rfl (w.heap.size + 1) #[.int .u16 (uv g), .int .u16 (uv a), .int .u32 (uv r)] rfl rfl 40 #[.int .u16 0, .int .u16 0, .int .u32 0] HW3.out (by kernel_rfl) rfl (by simp [Value.oneCell']) ?_
  go_wp2_with fail
  refine ⟨K3.out.row rfl _, ?_⟩
  unfold wpS
  go_wp2_with fail
  exact bodyPost_ret (v := .agg #[.int .u16 (uv g), .int .u16 (uv a), .int .u32 (uv r)]) (results_cell_row rfl _ _ (w.heap.size + 1) 40 _ (0, 0) _ rfl (setRow_heap _ _ _ _ _ _ HW3.out) Try.underlying40 rfl (by kernel_rfl)) rfl ⟨by rw [HG.out, HA.out, HR.out]; rfl, below_setRow (gr_tr HBW.out B3.out) (Nat.le_succ _) _⟩
end Go.Proofs.Ytpobkgkjfebhgaa
