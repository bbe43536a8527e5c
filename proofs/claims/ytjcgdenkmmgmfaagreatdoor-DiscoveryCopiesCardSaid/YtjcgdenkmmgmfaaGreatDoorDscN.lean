/- Discovery: Seen, Generation, Log. Printed by gendscn.py. -/
import Derived.Test.YtjcgdenkmmgmfaaGreatDoorDscM
namespace Go.Proofs.YtjcgdenkmmgmfaaGreatDoor
open Go.RowKit Dsc
set_option linter.unusedVariables false
set_option linter.unusedSimpArgs false
theorem recsOk : ElemOk Tryz.prog 41 37 (.agg #[.int .u8 0, .int .u8 0, .bool false, .bool false, .int .u16 0, .int .u16 0, .int .u16 0, .string ⟨#[]⟩, .string ⟨#[]⟩, .string ⟨#[]⟩]) 10 64 :=
  ⟨Tryz.underlying41, info_parts (by kernel_rfl), rfl, by decide⟩
namespace Dsc
def mayB (hs : List (List (BitVec 8))) (host : List (BitVec 8)) : Bool := decide (hs.length = 0) || decide (host ∈ hs)
def seenL (es : List Ent) (host : List (BitVec 8)) : List Rec := (es.filter (fun e => mayB e.hs host)).map (·.r)
theorem seenL_more {es : List Ent} {host : List (BitVec 8)} {k : Nat} {e : Ent} (h : es[k]? = some e) : seenL (es.take (k + 1)) host = seenL (es.take k) host ++ (if mayB e.hs host then [e.r] else []) := by
  unfold seenL
  rw [take_more es k e h, List.filter_append, List.map_append]
  cases hb : mayB e.hs host <;> simp [hb]
theorem seenL_le (es : List Ent) (host : List (BitVec 8)) : (seenL es host).length ≤ es.length := by
  unfold seenL; rw [List.length_map]; exact List.length_filter_le _ _
end Dsc
theorem strOf_eq {a b : List (BitVec 8)} : strOf a = strOf b ↔ a = b := ⟨fun h => strOf_inj.1 (by rw [h]), fun h => by rw [h]⟩
theorem SliceV.of_own {w : World} {α : Type} {f : α → List Value} {k : Nat} (hk : 0 < k) (hf : ∀ y, (f y).length = k) {base : Nat} {e : TypeId} {v : Value} {xs : List α} (h : w.ownsRow base e k v xs.length (xs.flatMap f)) : SliceV w f v xs := by
  obtain ⟨h1, h2⟩ := h
  rcases h2 with ⟨rfl, e2⟩ | ⟨b, cap, cur, rfl, hg, hh, r1, r2, r3, r4⟩
  · have hn : xs = [] := List.length_eq_zero_iff.1 e2
    subst hn
    exact ⟨none, 0, rfl, fun _ => rfl, by simp, by simp, .inl rfl⟩
  · exact ⟨_, cap, rfl, by simp, r1, r2, Row.of_own ⟨h1, .inr ⟨b, cap, cur, rfl, hg, hh, r1, r2, r3, r4⟩⟩⟩
theorem contains_at (hv : Value) (hs : List (List (BitVec 8))) (host : List (BitVec 8)) (b : Bool) (w : World) (hh : w.ownsRow 0 9 1 hv hs.length (hs.flatMap strC)) (hne : hs.length ≠ 0) (hn : hs.length ≤ 256) (hb : decide (host ∈ hs) = b) :
    Calls Tryz.prog 25 #[hv, .string (strOf host)] w fun e w' => e = .returned (.bool b) ∧ w' = w := by
  have hs1 : SliceV w strC hv hs := SliceV.of_own (k := 1) (by decide) (fun _ => rfl) hh
  obtain ⟨s, hs0⟩ : ∃ s, hs[0]? = some s := ⟨_, List.getElem?_eq_getElem (by omega)⟩
  obtain ⟨g, o, c, rfl, -⟩ := str_rng hs1 0 s hs0
  have hcell : ∀ j, j < (hs.map strOf).length → w.cell? ⟨g, o + j, none⟩ = some (.string ((hs.map strOf).getD j ByteArray.empty)) := fun j hj => by
    rw [List.length_map] at hj
    obtain ⟨g', o', c'', e', hc⟩ := str_rng hs1 j hs[j] (List.getElem?_eq_getElem hj)
    injection e' with e' _ _
    injection e' with e'
    injection e' with e1 e2
    subst e1; subst e2
    rw [hc, List.getD_eq_getElem?_getD, List.getElem?_map, List.getElem?_eq_getElem hj]; rfl
  refine (Tryz.slices_Contains_string g o hs.length c (hs.map strOf) (strOf host) w (by rw [List.length_map]; exact Nat.le_refl _) (by omega) hcell).mono ?_
  rintro e w' ⟨rfl, rfl⟩
  refine ⟨?_, rfl⟩
  rw [List.take_of_length_le (by rw [List.length_map]; exact Nat.le_refl _)]
  have : Lib.containsS (hs.map strOf) (strOf host) = b := by
    rw [← hb, Bool.eq_iff_iff, Lib.containsS_iff, decide_eq_true_eq, List.mem_map]
    exact ⟨fun ⟨x, hx, e⟩ => by rw [strOf_eq] at e; rw [← e]; exact hx, fun h => ⟨host, h, rfl⟩⟩
  rw [this]
set_option maxRecDepth 20000 in
set_option maxHeartbeats 3200000 in
theorem Seen1_at (x : Rec) (hv : Value) (hs : List (List (BitVec 8))) (host : List (BitVec 8)) (Bx : Nat) (b : Bool) (w : World) (hh : HostsV w hv hs) (hn : hs.length ≤ 256) (hb : mayB hs host = b) (hBx : w.heap[Bx]? = some (.cells #[.string (strOf host)] 9 (0, 0))) :
    Calls Tryz.prog 24 #[.agg (entC (x, hv)).toArray, .pointer (some ⟨Bx, 0, none⟩)] w fun e w' => e = .returned (.bool b) ∧ Below w.heap.size w w' := by
  obtain ⟨ah, ch, rfl⟩ : ∃ a c, hv = .slice a hs.length c := own_shape hh
  have H := Lib.hid hh
  have X := Lib.hid hBx
  obtain ⟨W, hW⟩ : ∃ W, W = w.alloc (.cells (entC (x, .slice ah hs.length ch)).toArray 70) := ⟨_, rfl⟩
  have D := Lib.hid (show Below w.heap.size w W by rw [hW]; exact gr_alloc w _)
  have hE : W.heap[w.heap.size]? = some (.cells (entC (x, .slice ah hs.length ch)).toArray 70 (0, 0)) := by rw [hW]; exact heap_alloc_new w _
  have x10 : W.cell? ⟨w.heap.size, 10, none⟩ = some (.slice ah hs.length ch) := (cell_of_row _ _ 10 _ _ _ hE).trans rfl
  have x0 : W.cell? ⟨Bx, 0, none⟩ = some (.string (strOf host)) := (cell_of_row _ _ 0 _ _ _ (blk_below X.out D.out)).trans rfl
  have HW := Lib.hid hW
  obtain ⟨c2, hc2⟩ : ∃ c, decide (host ∈ hs) = c := ⟨_, rfl⟩
  obtain ⟨n, hnn⟩ : ∃ n, hs.length = n := ⟨_, rfl⟩
  have HB := Lib.hid (show (decide (n = 0) || c2) = b by rw [← hb, ← hc2, ← hnn]; rfl)
  obtain ⟨st, hst⟩ : ∃ st, strOf host = st := ⟨_, rfl⟩
  have CN := Lib.hid (fun w h hne => contains_at (.slice ah hs.length ch) hs host c2 w h hne hn hc2)
  have H2 := Lib.hid (own_below H.out D.out)
  rw [hst] at CN x0
  rw [hnn] at x10 CN hn H2
  obtain ⟨ec, hec⟩ : ∃ ec, (entC (x, .slice ah n ch)).toArray = ec := ⟨_, rfl⟩
  rw [hnn, hec] at HW
  rw [hnn, hec]
  clear hW hb hc2 hst hE hec hnn H X hh hBx
  go_enter Tryz.func24, Tryz.ntmps24
  go_upto_region 1 with fail
  rw [← HW.out]
  by_cases hz : n = 0
  · have hb : b = true := by rw [← HB.out, decide_eq_true hz]; rfl
    subst hb
    subst hz
    go_wp2
    go_ret
    exact ⟨rfl, D.out⟩
  · have hb : b = c2 := by rw [← HB.out, decide_eq_false hz, Bool.false_or]
    subst hb
    have hd : ((n : Int) == 0) = false := by simp; exact hz
    go_wp2_with (go_at_call 25; go_loud (refine (CN.out _ H2.out hz).mono ?_; rintro e w2 ⟨rfl, rfl⟩))
    go_ret
    exact ⟨rfl, D.out⟩
set_option maxRecDepth 20000 in
set_option maxHeartbeats 3200000 in
theorem Seen2_at (x : Rec) (hv : Value) (w : World) :
    Calls Tryz.prog 26 #[.agg (entC (x, hv)).toArray] w fun e w' => e = .returned (.agg x.cells.toArray) ∧ Below w.heap.size w w' := by
  have CLL := Lib.hid (rec_len x)
  have CLS := Lib.hid (show x.cells.toArray.size = 10 from rfl)
  have ONE := Lib.hid (rec_one x)
  obtain ⟨W, hW⟩ : ∃ W, W = w.alloc (.cells (entC (x, hv)).toArray 70) := ⟨_, rfl⟩
  have D := Lib.hid (show Below w.heap.size w W by rw [hW]; exact gr_alloc w _)
  have hE : W.heap[w.heap.size]? = some (.cells (entC (x, hv)).toArray 70 (0, 0)) := by rw [hW]; exact heap_alloc_new w _
  have RNG := Lib.hid (show W.rangeAt w.heap.size 0 x.cells from fun j v hj => by
    rw [Nat.zero_add]
    have h := cell_of_row _ _ j _ _ _ hE
    rw [h]
    have hl := (List.getElem?_eq_some_iff.1 hj).1
    show (entC (x, hv)).toArray[j]? = some v
    unfold entC
    rw [List.getElem?_toArray, List.getElem?_append_left hl, hj])
  have WS := Lib.hid (show W.heap.size = w.heap.size + 1 by rw [hW]; simp)
  have HW := Lib.hid hW
  obtain ⟨ec, hec⟩ : ∃ ec, (entC (x, hv)).toArray = ec := ⟨_, rfl⟩
  rw [hec] at HW ⊢
  obtain ⟨cx, hcx⟩ : ∃ c, x.cells = c := ⟨_, rfl⟩
  rw [hcx] at CLL CLS RNG ONE ⊢
  clear hW hE hec hcx
  obtain ⟨V, hV⟩ : ∃ V, V = W.alloc (.cells #[.int .u8 0, .int .u8 0, .bool false, .bool false, .int .u16 0, .int .u16 0, .int .u16 0, .string ⟨#[]⟩, .string ⟨#[]⟩, .string ⟨#[]⟩] 37) := ⟨_, rfl⟩
  have D2 := Lib.hid (show Below W.heap.size W V by rw [hV]; exact gr_alloc W _)
  have RNG2 := Lib.hid (rng_below RNG.out D2.out)
  have Z := Lib.hid (show V.heap[w.heap.size + 1]? = some (.cells #[.int .u8 0, .int .u8 0, .bool false, .bool false, .int .u16 0, .int .u16 0, .int .u16 0, .string ⟨#[]⟩, .string ⟨#[]⟩, .string ⟨#[]⟩] 37 (0, 0)) by rw [← WS.out, hV]; exact heap_alloc_new W _)
  have HV := Lib.hid hV
  clear hV
  go_enter Tryz.func26, Tryz.ntmps26
  go_upto_region 1 with fail
  rw [← HW.out]
  first
    | rw [← HV.out]
    | (rw [← HV.out])
  go_wp2_with (first
    | (refine wpList_load_mid rfl 37 (.tmp 3) rfl w.heap.size 0 rfl cx _ RNG2.out Tryz.underlying37 rfl (by rw [CLL.out]; kernel_rfl) ?_)
    | (go_loud (refine wpList_store_row rfl 37 (.tmp 2) (.tmp 4) rfl (w.heap.size + 1) cx.toArray rfl rfl 37 #[.int .u8 0, .int .u8 0, .bool false, .bool false, .int .u16 0, .int .u16 0, .int .u16 0, .string ⟨#[]⟩, .string ⟨#[]⟩, .string ⟨#[]⟩] Z.out (by rw [CLS.out]; kernel_rfl) (by rw [CLS.out]; rfl) ONE.out ?_; have Z2 := Lib.hid (setRow_heap _ _ _ cx.toArray _ _ Z.out); have D3 := Lib.hid (below_setRow (gr_tr D.out D2.out) (show w.heap.size ≤ w.heap.size + 1 by omega) cx.toArray))))
  exact bodyPost_ret (v := .agg cx.toArray) (results_cell_row rfl _ _ (w.heap.size + 1) 37 _ (0, 0) _ rfl Z2.out Tryz.underlying37 rfl (by rw [CLS.out]; kernel_rfl)) rfl ⟨rfl, D3.out⟩
end Go.Proofs.YtjcgdenkmmgmfaaGreatDoor
