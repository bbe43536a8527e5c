/- DecodeControllers: the closures, decoded, DecodeControllers. -/
import Derived.Test.YtccllneifkeimaaIdNum
namespace Go.Proofs.Ytccllneifkeimaa
open Go.RowKit Idn Rise
set_option linter.unusedVariables false
set_option linter.unusedSimpArgs false
namespace Idn
def cntN (l : List (BitVec 8)) : BitVec 16 := (Wire.getV (cutL l 0 2)).setWidth 16
def manyN (l : List (BitVec 8)) : Nat := min (cntN l).toNat 2047
def numN (l : List (BitVec 8)) (i : Nat) : BitVec 16 := (Wire.getV (cutL l (2 + 2 * i) 2)).setWidth 16
/-- What is read of bytes. -/
def rdN (l : List (BitVec 8)) : List (BitVec 16) := (List.range (manyN l)).map (numN l)
theorem rdN_len (l : List (BitVec 8)) : (rdN l).length = manyN l := by simp [rdN]
theorem manyN_le (l : List (BitVec 8)) : manyN l ≤ 2047 := by unfold manyN; omega
theorem rdN_get (l : List (BitVec 8)) (i : Nat) (h : i < manyN l) : (rdN l)[i]? = some (numN l i) := by simp [rdN, h]
/-- The first k have been read. -/
def partN (l : List (BitVec 8)) (k : Nat) : List (BitVec 16) := (rdN l).take k ++ List.replicate (manyN l - k) 0#16
theorem partN_len (l : List (BitVec 8)) (k : Nat) (h : k ≤ manyN l) : (partN l k).length = manyN l := by
  unfold partN; rw [List.length_append, List.length_take, List.length_replicate, rdN_len]; omega
theorem partN_zero (l : List (BitVec 8)) : partN l 0 = List.replicate (manyN l) 0#16 := by unfold partN; simp
theorem partN_all (l : List (BitVec 8)) : partN l (manyN l) = rdN l := by unfold partN; rw [List.take_of_length_le (by rw [rdN_len]; omega)]; simp
theorem partN_next (l : List (BitVec 8)) (k : Nat) (h : k < manyN l) : (nu16 (partN l k)).set k (.int .u16 (uv (numN l k))) = nu16 (partN l (k + 1)) := by
  unfold nu16
  rw [← List.map_set (f := fun y : BitVec 16 => Value.int .u16 (uv y)) (a := numN l k)]
  congr 1
  have hg := rdN_get l k h
  obtain ⟨h1, h2⟩ := List.getElem?_eq_some_iff.1 hg
  unfold partN
  rw [List.take_succ_eq_append_getElem h1, h2, List.set_append_right _ _ (by rw [List.length_take]; omega), List.length_take, rdN_len, Nat.min_eq_left (Nat.le_of_lt h), Nat.sub_self]
  rw [show manyN l - k = (manyN l - (k + 1)) + 1 by omega, List.replicate_succ]
  simp
end Idn
theorem Chg.trans_new {B C : Nat → Prop} {a b c : World} (h : Chg B a b) (k : Chg C b c) (hC : ∀ g, C g → a.heap.size ≤ g) : Chg B a c :=
  ⟨k.os.trans h.os, k.tape.trans h.tape, k.output.trans h.output, Nat.le_trans h.size k.size, fun j hj hn => (k.block j (Nat.lt_of_lt_of_le hj h.size) (fun hc => by have := hC j hc; omega)).trans (h.block j hj hn)⟩
theorem zero16 (n : Nat) : (madeCells (Value.int .u16 0).cells (n * 1)).toList = nu16 (List.replicate n 0#16) := by
  rw [Nat.mul_one]
  have := toList_madeCells_one (.int .u16 0) n
  simp only [Value.cells]
  rw [this]; simp [nu16]; exact Or.inr rfl
set_option maxHeartbeats 6400000 in
set_option maxRecDepth 100000 in
theorem readN_at (X bbox : Nat) (bv : Value) (l : List (BitVec 8)) (w : World) (hb : BytesV w bv l) (hl : l.length = 4096) (hbb : w.heap[bbox]? = some (.cells #[bv] 28 (0, 0))) (hoff : Off (fun b => b = X) bv) (hne : ¬ bbox = X)
    (hx : w.heap[X]? = some (.cells #[.slice none 0 0] 75 (0, 0))) :
    Calls Try.prog 64 #[.pointer (some ⟨X, 0, none⟩), .pointer (some ⟨bbox, 0, none⟩)] w fun e w' => e = .returned (.tuple #[]) ∧ (∃ v, w'.heap[X]? = some (.cells #[v] 75 (0, 0)) ∧ SliceV w' S16 v (rdN l)) ∧ Chg (fun b => b = X) w w' := by
  have HBB := Lib.hid hbb; have HX := Lib.hid hx; have HL := Lib.hid hl; have BV := Lib.hid hb; have OFF := Lib.hid hoff; have HNE := Lib.hid hne
  have GL := Lib.hid (slice_lt hb (by omega))
  have HXL := Lib.hid (Array.getElem?_eq_some_iff.1 hx).1
  have HBL := Lib.hid (Array.getElem?_eq_some_iff.1 hbb).1
  obtain ⟨W, hW⟩ : ∃ W, W = w.alloc (.cells #[.int .u16 0] 22) := ⟨_, rfl⟩
  have D := Lib.hid (show Below w.heap.size w W by rw [hW]; exact gr_alloc w _)
  have NB := Lib.hid (show W.heap[w.heap.size]? = some (.cells #[.int .u16 0] 22 (0, 0)) by rw [hW]; exact heap_alloc_new w _)
  have HS := Lib.hid (show w.heap.size < W.heap.size by rw [hW]; simp)
  have HW := Lib.hid hW
  obtain ⟨n, hn⟩ : ∃ n, cntN l = n := ⟨_, rfl⟩
  have HN := Lib.hid hn
  have q0 : ∀ y : KeepT (fun b => b = w.heap.size) W, y.val.cell? ⟨bbox, 0, none⟩ = some bv := fun y => y.cell ((cell_of_row _ _ 0 _ _ _ (blk_below hbb D.out)).trans rfl) (by have := HBL.out; omega)
  clear hb hbb hl hoff hne hx hW hn
  go_enter Try.func64, Try.ntmps64
  go_upto_region 1 with (fail)
  rw [← HW.out]
  refine wp_region_planW (fun b => b = w.heap.size) [(true, 0), (false, 1), (false, 2), (false, 3)] (by kernel_rfl) (by kernel_rfl) (by intro c a d v w h; cases d <;> exact h) ?_
  intro W1 K1 C1
  repeat (refine wpS_firm rfl (fun K hK => ?_); simp only [Keep]; go_simp; refine hK _ ?_; clear hK K)
  refine wpS_chain rfl ?_
  go_wp2_with (go_at_call 62; go_loud (refine (at_u16 w.heap.size 0 0 _).mono ?_; rintro r w3 ⟨bx, rfl, hbx, hok, hw⟩; have OKP := Lib.hid hok; have HBX := Lib.hid hbx; have K3 := Lib.hid (K1.out.below hw); have C3 := Lib.hid (gr_tr C1.out hw); clear hbx hok hw))
  refine ⟨K3.out, ?_⟩
  refine wpS_chain rfl ?_
  obtain ⟨ie, i1, i2, i3, -⟩ := placesOk.info
  refine wpList_buildSlice rfl 84 100 1 _ rfl (([⟨0, .u16, w.heap.size, 0, bx⟩] : List Pl).flatMap Pl.cells).toArray ie _ placesOk.under i1 i2 (by rw [i3]; decide) (by rw [i3]; decide) (by rw [i3]; kernel_rfl) ?_
  have SV := Lib.hid (SliceV.of_cells (f := Pl.cells) w3 [(⟨0, .u16, w.heap.size, 0, bx⟩ : Pl)] ((([⟨0, .u16, w.heap.size, 0, bx⟩] : List Pl).flatMap Pl.cells).toArray) 100 1 rfl (by omega) rfl)
  have G4 := Lib.hid (gr_alloc w3 (.cells ((([⟨0, .u16, w.heap.size, 0, bx⟩] : List Pl).flatMap Pl.cells).toArray) 100))
  have K4 := Lib.hid (K3.out.below G4.out)
  have C4 := Lib.hid (gr_tr C3.out G4.out)
  have S3 := Lib.hid C3.out.size
  go_wp2_with fail
  refine ⟨K4.out, ?_⟩
  refine wpS_chain rfl ?_
  have hrd : readC l #[.int .u16 0] [(⟨0, .u16, w.heap.size, 0, bx⟩ : Pl)] = #[.int .u16 (uv n)] := by rw [← HN.out]; rfl
  have HRD := Lib.hid hrd; clear hrd
  go_wp2_with (go_at_call 55; go_loud (refine (load_any w.heap.size 22 #[.int .u16 0] bv _ l [(⟨0, .u16, w.heap.size, 0, bx⟩ : Pl)] _ (BV.out.below (gr_tr D.out C4.out)) HL.out (fun g o n c e h => by have := GL.out g o n c e; omega) SV.out (fun g o n c e h => by cases e; have := S3.out; have := HS.out; omega) (blk_below NB.out C4.out) (fun q hq => by simp at hq; subst hq; exact ⟨OKP.out.below G4.out, rfl, (show bx ≠ w.heap.size by have := HBX.out; have := HS.out; have := C1.out.size; omega), (show 0 < 1 by decide), (show 0 + 2 ≤ 4096 by decide)⟩)).mono ?_; rw [HRD.out]; rintro r w5 ⟨rfl, hx5, hc⟩; have N5 := Lib.hid hx5; have K5 := Lib.hid (K4.out.chg hc (fun k h => .inl h)); have C5 := Lib.hid (hc.fresh (gr_tr D.out C4.out) (fun k hk => by omega)); clear hx5 hc))
  refine ⟨K5.out, ?_⟩
  unfold wpS
  have X5 := Lib.hid (blk_below HX.out C5.out)
  have cn := (cell_of_row _ _ 0 _ _ _ N5.out).trans (rfl : _ = some (Value.int .u16 (uv n)))
  obtain ⟨m, hm⟩ : ∃ m, manyN l = m := ⟨_, rfl⟩
  have hmin : min (uv n) 2047 = (m : Int) := by rw [← hm, ← HN.out]; unfold manyN uv; omega
  have hm47 : m ≤ 2047 := by rw [← hm]; exact manyN_le l
  have HMIN := Lib.hid hmin; have HM := Lib.hid hm; have HM47 := Lib.hid hm47
  clear hm hmin hm47 q0
  have cX := (cell_of_row _ _ 0 _ _ _ X5.out).trans (rfl : _ = some (Value.slice none 0 0))
  have fX := frozen_of_row _ _ 0 _ _ X5.out
  go_upto_region 3 with (refine make_law ownu16 rfl _ _ rfl w5.heap.size .u16 .u16 (min (uv n) 2047) (min (uv n) 2047) m rfl rfl HMIN.out HMIN.out (by have := HM47.out; omega) (by have := HM47.out; omega) (Nat.le_refl _) ?_; intro w6 hown hgrow; rw [zero16] at hown; have O6 := Lib.hid hown; have B6 := Lib.hid ((Below.refl w5.heap.size w5).grown hgrow (Nat.le_refl _) (by intro k hk; cases hk)); clear hown hgrow; have X6 := Lib.hid (blk_below X5.out B6.out); have cX6 := (cell_of_row _ _ 0 _ _ _ X6.out).trans (rfl : _ = some (Value.slice none 0 0)); have fX6 := frozen_of_row _ _ 0 _ _ X6.out)
  clear cn cX fX cX6 fX6
  obtain ⟨G, hG⟩ : ∃ G, w5.heap.size = G := ⟨_, rfl⟩
  have HG5 := Lib.hid C5.out.size
  have HGX := Lib.hid (show G ≠ X by have := HXL.out; have := C5.out.size; omega)
  rw [hG] at O6 ⊢
  obtain ⟨W7, hW7⟩ : ∃ z, z = w6.setCell ⟨X, 0, none⟩ (.slice (some ⟨G, 0, none⟩) m m) := ⟨_, rfl⟩
  have X7 := Lib.hid (show W7.heap[X]? = some (.cells #[.slice (some ⟨G, 0, none⟩) m m] 75 (0, 0)) by rw [hW7]; exact one_setCell X6.out)
  have CX7 := Lib.hid (show Chg (fun b => b = X) w6 W7 by rw [hW7]; exact Chg.setCell (B := fun b => b = X) (p := ⟨X, 0, none⟩) _ rfl _)
  have C7 := Lib.hid ((Chg.of_below (B := fun b => b = X) (gr_tr C5.out B6.out)).trans CX7.out)
  have O7 := own_chg O6.out CX7.out (fun g hg => by cases hg; exact HGX.out)
  rw [← hW7]
  obtain ⟨-, h2⟩ := O7
  rcases h2 with ⟨e1, _⟩ | ⟨g', cap, cur, e1, hg1, hh, r1, r2, r3, r4⟩
  · cases e1
  cases e1
  rw [Nat.mul_one] at r3 r4
  have HH := Lib.hid hh; have R3 := Lib.hid r3; have R4 := Lib.hid r4
  have HGL := Lib.hid (show w.heap.size ≤ G by rw [← hG]; exact HG5.out)
  have C7B := Lib.hid (show Chg (fun b => b = X) w W7 from C7.out)
  clear hW7 hG hg1 hh r1 r2 r3 r4
  have cX7 := (cell_of_row _ _ 0 _ _ _ X7.out).trans (rfl : _ = some (Value.slice (some ⟨G, 0, none⟩) m m))
  have hm64 : (m : Int) ≤ 2047 := by have := HM47.out; omega
  go_wp2
  go_loopw [18] (fun i wr => ∃ k : Nat, k ≤ m ∧ i = .int .i64 k ∧ (∃ cu : Array Value, Hid (wr.heap[G]? = some (.cells cu 22 (0, 0))) ∧ Hid (cu.toList.take m = nu16 (partN l k)) ∧ Hid (cu.size = m)) ∧ wr.heap[X]? = some (.cells #[.slice (some ⟨G, 0, none⟩) m m] 75 (0, 0)) ∧ Chg (fun b => b = X) w wr ∧ G < wr.heap.size) (fun i _ => m - (intOf i).toNat)
  case atStart => exact ⟨0, by omega, rfl, ⟨cur, HH.out, by rw [partN_zero, HM.out]; exact R4.out, Lib.hid R3.out⟩, X7.out, C7B.out, (Array.getElem?_eq_some_iff.1 HH.out).1⟩
  case round =>
    clear cX7 HH R3 R4 X7 C7B C7 CX7 O6 X6 B6 N5 X5 K5 C5 HG5
    obtain ⟨k, hk, rfl, ⟨cu, HC, HT, HZ⟩, hx, hc, hgl⟩ := hrel
    have XR := Lib.hid hx; have CR := Lib.hid hc; have GLT := Lib.hid hgl; clear hx hc hgl
    by_cases hlt : k < m
    · have BBR := Lib.hid (CR.out.blk HBB.out HNE.out)
      have q0 : ∀ y : KeepT (fun b => b = G) wr, y.val.cell? ⟨bbox, 0, none⟩ = some bv := fun y => y.cell ((cell_of_row _ _ 0 _ _ _ BBR.out).trans rfl) (by have := HBL.out; have := HGL.out; omega)
      have q1 : ∀ y : KeepT (fun b => b = G) wr, y.val.cell? ⟨X, 0, none⟩ = some (.slice (some ⟨G, 0, none⟩) m m) := fun y => y.cell ((cell_of_row _ _ 0 _ _ _ XR.out).trans rfl) (fun h => HGX.out h.symm)
      have hk47 : (k : Int) ≤ 2046 := by have := HM47.out; omega
      have hs1 : IntKind.i64.wrap (2 * (k : Int)) = 2 * (k : Int) := IntWalk.i64_in _ (by omega)
      have hs2 : IntKind.i64.wrap (2 + 2 * (k : Int)) = 2 + 2 * (k : Int) := IntWalk.i64_in _ (by omega)
      have H2K := Lib.hid (show (0 : Int) ≤ 2 + 2 * (k : Int) by omega)
      have HK46 := Lib.hid (show k ≤ 2046 by have := HM47.out; omega)
      go_upto_region 6 with (fail)
      refine wp_region_planW (fun b => b = G) [(true, 0), (true, 1), (true, 2), (true, 3), (true, 4), (true, 5), (true, 6), (true, 7), (true, 8), (false, 9), (false, 10), (false, 11)] (by kernel_rfl) (by kernel_rfl) (by intro c a d v w h; cases d <;> exact h) ?_
      intro W1 K1 C1
      repeat (refine wpS_firm rfl (fun K hK => ?_); simp only [Keep]; go_simp; refine hK _ ?_; clear hK K)
      refine wpS_chain rfl ?_
      go_wp2_with (go_at_call 62; go_loud (refine (at_u16i G k (2 + 2 * (k : Int)) H2K.out _).mono ?_; rintro r w3 ⟨bx, rfl, hbx, hok, hw⟩; have OKP := Lib.hid hok; have HBX := Lib.hid hbx; have K3 := Lib.hid (K1.out.below hw); have C3 := Lib.hid (gr_tr C1.out hw); clear hbx hok hw))
      refine ⟨K3.out, ?_⟩
      refine wpS_chain rfl ?_
      obtain ⟨ie, i1, i2, i3, -⟩ := placesOk.info
      refine wpList_buildSlice rfl 84 100 1 _ rfl (([⟨(2 + 2 * (k : Int)).toNat, .u16, G, k, bx⟩] : List Pl).flatMap Pl.cells).toArray ie _ placesOk.under i1 i2 (by rw [i3]; decide) (by rw [i3]; decide) (by rw [i3]; kernel_rfl) ?_
      have SV := Lib.hid (SliceV.of_cells (f := Pl.cells) w3 [(⟨(2 + 2 * (k : Int)).toNat, .u16, G, k, bx⟩ : Pl)] ((([⟨(2 + 2 * (k : Int)).toNat, .u16, G, k, bx⟩] : List Pl).flatMap Pl.cells).toArray) 100 1 rfl (by omega) rfl)
      have G4 := Lib.hid (gr_alloc w3 (.cells ((([⟨(2 + 2 * (k : Int)).toNat, .u16, G, k, bx⟩] : List Pl).flatMap Pl.cells).toArray) 100))
      have K4 := Lib.hid (K3.out.below G4.out)
      have C4 := Lib.hid (gr_tr C3.out G4.out)
      have S3 := Lib.hid C3.out.size
      go_wp2_with fail
      refine ⟨K4.out, ?_⟩
      refine wpS_chain rfl ?_
      have hrd : readC l cu [(⟨(2 + 2 * (k : Int)).toNat, .u16, G, k, bx⟩ : Pl)] = cu.setIfInBounds k (.int .u16 (uv (numN l k))) := by
        show cu.setIfInBounds k (Kd.u16.val (Wire.getV (cutL l (2 + 2 * (k : Int)).toNat 2))) = _
        rw [show (2 + 2 * (k : Int)).toNat = 2 + 2 * k by omega]; rfl
      have HRD := Lib.hid hrd; clear hrd
      have BVR := Lib.hid (BV.out.chg CR.out OFF.out)
      go_wp2_with (go_at_call 55; go_loud (refine (load_any G 22 cu bv _ l [(⟨(2 + 2 * (k : Int)).toNat, .u16, G, k, bx⟩ : Pl)] _ (BVR.out.below C4.out) HL.out (fun g o n c e h => by have := GL.out g o n c e; have := HGL.out; omega) SV.out (fun g o n c e h => by cases e; have := S3.out; have := GLT.out; omega) (blk_below HC.out C4.out) (fun q hq => by simp at hq; subst hq; exact ⟨OKP.out.below G4.out, rfl, (show bx ≠ G by have := HBX.out; have := GLT.out; have := C1.out.size; omega), (show k < cu.size by rw [HZ.out]; exact hlt), (show (2 + 2 * (k : Int)).toNat + 2 ≤ 4096 by have := HK46.out; omega)⟩)).mono ?_; rw [HRD.out]; rintro r w5 ⟨rfl, hx5, hc⟩; have N5 := Lib.hid hx5; have K5 := Lib.hid (K4.out.chg hc (fun k h => .inl h)); have C5 := Lib.hid ((Chg.of_below (B := fun b => b = G) C4.out).trans hc); clear hx5 hc))
      refine ⟨K5.out, ?_⟩
      unfold wpS
      have hnext : (cu.setIfInBounds k (.int .u16 (uv (numN l k)))).toList.take m = nu16 (partN l (k + 1)) := by
        have h1 := HT.out
        rw [List.take_of_length_le (by rw [Array.length_toList, HZ.out]; omega)] at h1
        rw [List.take_of_length_le (by rw [Array.length_toList, Array.size_setIfInBounds, HZ.out]; omega), Array.toList_setIfInBounds, h1]
        exact partN_next l k (by rw [HM.out]; exact hlt)
      have HNX := Lib.hid hnext
      clear hnext q0 q1 hs1 hs2
      go_wp2
      go_roundw
      case rel => exact ⟨k + 1, by omega, by go_num, ⟨_, N5.out, HNX.out, Lib.hid (by rw [Array.size_setIfInBounds]; exact HZ.out)⟩, C5.out.blk XR.out (fun h => HGX.out h.symm), CR.out.trans_new C5.out (fun b hb => by have := HGL.out; omega), Nat.lt_of_lt_of_le GLT.out C5.out.size⟩
      case measure => simp [intOf]; omega
    · obtain rfl : k = m := by omega
      go_wp2
      go_end0
      refine ⟨rfl, ⟨_, XR.out, ?_⟩, CR.out⟩
      have hT := HT.out
      rw [show partN l k = rdN l by rw [← HM.out, partN_all]] at hT
      have hlen : (rdN l).length = k := by rw [rdN_len]; exact HM.out
      refine ⟨some ⟨G, 0, none⟩, k, by rw [hlen], (fun h => by cases h), by rw [hlen]; exact Nat.le_refl _, by have := HM47.out; omega, .inr ⟨G, 0, rfl, fun i hi => ?_⟩⟩
      rw [Nat.zero_add, cell_of_row _ _ i _ _ _ HC.out]
      rw [flat_one] at hi ⊢
      have hi2 : i < k := by simpa [hlen] using hi
      rw [← Array.getElem?_toList, ← List.getElem?_take_of_lt hi2, hT]; rfl
end Go.Proofs.Ytccllneifkeimaa
