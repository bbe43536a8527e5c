/- Notices: the reference's EncodeNotice and DecodeNotice. -/
import Derived.Test.YthnnopjakpjoeaaDoorLogN
import Derived.Test.YthnnopjakpjoeaaDoorLogR
import Derived.Test.YthnnopjakpjoeaaDoorRows2
namespace Go.Proofs.YthnnopjakpjoeaaDoor
open Go.RowKit Lg
set_option linter.unusedVariables false
set_option linter.unusedSimpArgs false
theorem OwnN.chg {N : Nat} {B : Nat → Prop} {w w' : World} {base g cap : Nat} {l : List (BitVec 8)} (h : OwnN N w base g cap l) (c : Chg B w w') (hn : ¬ B g) : OwnN N w' base g cap l := own_chg h c (fun k hk => by cases hk; exact hn)
theorem byt_lt2 {w : World} {v : Value} {l : List (BitVec 8)} (h : BytesV w v l) (hl : 0 < l.length) : ∀ g o n c, v = .slice (some ⟨g, o, none⟩) n c → g < w.heap.size := by
  intro g o n c e
  obtain ⟨a, c', e2, -, -, -, hr⟩ := h
  rw [e] at e2
  injection e2 with e3 e4 e5
  subst e3
  exact hr.lt (by intro hn; have h9 := congrArg List.length hn; rw [by8_length, List.length_nil] at h9; omega)
theorem Lay1 (l : List (BitVec 8)) (a : Nat) (y : BitVec 8) (h : a < l.length) : Lay.lay l a [y] = l.set a y := by
  unfold Lay.lay
  rw [List.length_singleton, List.set_eq_take_append_cons_drop, if_pos h]; rfl
theorem le1 (y : BitVec 8) : Wire.putB (y.setWidth 64) 1 = [y] := by
  rw [(fit8 y).2]
  show [((y.setWidth 64) >>> (8 * 0)).setWidth 8] = [y]
  simp
set_option maxHeartbeats 3200000 in
set_option maxRecDepth 20000 in
theorem rEncNo_at (x : No) (e : Int) (B : List (BitVec 8)) (w : World) (he : noE x = e) (hB : noR x = B) :
    Calls Tryd.prog 52 #[.agg (No.cells x).toArray] w fun r w' => ∃ u, r = .returned (.tuple #[u, .int .i64 e]) ∧ BytesV w' u B ∧ Below w.heap.size w w' := by
  unfold noE at he
  unfold noR at hB
  unfold noOk at he hB
  rw [show (No.cells x).toArray = #[.int .u64 (uv x.count), .int .u8 (uv x.kind), .int .u8 (uv x.avail), .int .u32 (uv x.nsid)] from rfl]
  by_cases hk : x.kind.toNat ≤ 3
  · rw [decide_eq_true hk] at he hB
    simp only [if_true] at he hB
    subst he
    have HB := Lib.hid ((no_lays x).trans hB)
    have hq : decide (3 < uv x.kind) = false := decide_eq_false (by have : uv x.kind = x.kind.toNat := rfl; omega)
    clear hk hB
    obtain ⟨W, hW⟩ : ∃ W, W = w.alloc (.cells #[.int .u64 (uv x.count), .int .u8 (uv x.kind), .int .u8 (uv x.avail), .int .u32 (uv x.nsid)] 113) := ⟨_, rfl⟩
    have D := Lib.hid (show Below w.heap.size w W by rw [hW]; exact gr_alloc w _)
    have X := Lib.hid (show W.heap[w.heap.size]? = some (.cells #[.int .u64 (uv x.count), .int .u8 (uv x.kind), .int .u8 (uv x.avail), .int .u32 (uv x.nsid)] 113 (0, 0)) by rw [hW]; exact heap_alloc_new w _)
    have p1 : W.cell? ⟨w.heap.size, 1, none⟩ = some (.int .u8 (uv x.kind)) := (cell_of_row _ _ 1 _ _ _ X.out).trans rfl
    have LT := Lib.hid (show w.heap.size < W.heap.size by rw [hW, World.size_alloc]; omega)
    have HW := Lib.hid hW
    clear hW
    go_enter Tryd.func52, Tryd.ntmps52
    go_upto_region 1 with (fail)
    rw [← HW.out]
    go_upto_region 4 with (refine make_law bytesOk rfl _ _ rfl W.heap.size .i64 .i64 64 64 64 rfl rfl rfl rfl (by omega) (by omega) (Nat.le_refl _) ?_; intro w2 hown hgrow; have O := Lib.hid (show OwnN 64 w2 W.heap.size W.heap.size 64 (List.replicate 64 0#8) by have h := hown; rw [by8_made] at h; exact h); have B2 := Lib.hid ((Below.refl W.heap.size W).grown hgrow (Nat.le_refl _) (by intro k hk; cases hk)); have X2 := Lib.hid (blk_below X.out B2.out); clear hown hgrow)
    have x0 : w2.cell? ⟨w.heap.size, 0, none⟩ = some (.int .u64 (uv x.count)) := (cell_of_row _ _ 0 _ _ _ X2.out).trans rfl
    have hf0 := fit64 x.count
    have HF0 := Lib.hid hf0.2
    clear p1 hq hf0
    go_upto_region 5 with (go_at_call 80; go_loud (refine (rput23 64 W.heap.size 64 W.heap.size _ 0 8 x.count _ O.out (by decide) (by decide) (by decide)).mono ?_; rintro r w3 ⟨rfl, ho, hc⟩; have O3 := Lib.hid ho; have X3 := Lib.hid (hc.blk X2.out (by have := LT.out; omega)); have B3 := Lib.hid (B2.out.trans (hc.below (fun q hq => by subst hq; exact Nat.le_refl _) B2.out.size)); clear ho hc))
    clear x0
    have q1 : ∀ y : KeepT (fun b => b = W.heap.size) w3, y.val.cell? ⟨w.heap.size, 1, none⟩ = some (.int .u8 (uv x.kind)) := fun y => y.cell ((cell_of_row _ _ 1 _ _ _ X3.out).trans rfl) (by have := LT.out; omega)
    have q2 : ∀ y : KeepT (fun b => b = W.heap.size) w3, y.val.cell? ⟨w.heap.size, 2, none⟩ = some (.int .u8 (uv x.avail)) := fun y => y.cell ((cell_of_row _ _ 2 _ _ _ X3.out).trans rfl) (by have := LT.out; omega)
    refine wp_region_planW (fun b => b = W.heap.size) [(true, 0), (true, 1), (true, 2), (true, 3), (true, 4), (true, 5), (true, 6), (false, 7), (true, 8), (false, 9)] (by kernel_rfl) (by kernel_rfl) (by intro c a d v w h; cases d <;> exact h) ?_
    intro W1 K1 C1
    repeat (refine wpS_firm rfl (fun K hK => ?_); simp only [Keep]; go_simp; refine hK _ ?_; clear hK K)
    have O4 := Lib.hid (O3.out.below C1.out)
    refine wpS_chain rfl ?_
    obtain ⟨z8, hz8⟩ : ∃ y, (Lay.lay (List.replicate 64 0#8) 0 (Wire.le x.count 8))[8]? = some y := ⟨_, List.getElem?_eq_getElem (by rw [O4.out.len]; decide)⟩
    have g8 : W1.cell? ⟨W.heap.size, 8, none⟩ = some (.int .u8 (uv z8)) := by rw [World.ownsRow.cellAt O4.out 8 (by decide), by8_get, hz8]; rfl
    have f8 := World.ownsRow.frozenAt O4.out 8
    clear hz8
    go_wp2
    have O5 := Lib.hid (O4.out.set 8 x.kind)
    have K5 := Lib.hid (K1.out.put (p := ⟨W.heap.size, 8, none⟩) rfl (.int .u8 (uv x.kind)))
    have C5 := Lib.hid ((Chg.of_below (B := fun b => b = W.heap.size) C1.out).trans (Chg.setCell (B := fun b => b = W.heap.size) (p := ⟨W.heap.size, 8, none⟩) W1 rfl (.int .u8 (uv x.kind))))
    obtain ⟨W5, hW5⟩ : ∃ V, W1.setCell ⟨W.heap.size, 8, none⟩ (.int .u8 (uv x.kind)) = V := ⟨_, rfl⟩
    rw [hW5] at O5 K5 C5 ⊢
    clear g8 f8 hW5
    refine ⟨K5.out, ?_⟩
    repeat (refine wpS_firm rfl (fun K hK => ?_); simp only [Keep]; go_simp; refine hK _ ?_; clear hK K)
    refine wpS_chain rfl ?_
    obtain ⟨z9, hz9⟩ : ∃ y, ((Lay.lay (List.replicate 64 0#8) 0 (Wire.le x.count 8)).set 8 x.kind)[9]? = some y := ⟨_, List.getElem?_eq_getElem (by rw [O5.out.len]; decide)⟩
    have g9 : W5.cell? ⟨W.heap.size, 9, none⟩ = some (.int .u8 (uv z9)) := by rw [World.ownsRow.cellAt O5.out 9 (by decide), by8_get, hz9]; rfl
    have f9 := World.ownsRow.frozenAt O5.out 9
    clear hz9
    go_wp2
    have O6 := Lib.hid (O5.out.set 9 x.avail)
    have K6 := Lib.hid (K5.out.put (p := ⟨W.heap.size, 9, none⟩) rfl (.int .u8 (uv x.avail)))
    have C6 := Lib.hid (C5.out.trans (Chg.setCell (B := fun b => b = W.heap.size) (p := ⟨W.heap.size, 9, none⟩) W5 rfl (.int .u8 (uv x.avail))))
    obtain ⟨W6, hW6⟩ : ∃ V, W5.setCell ⟨W.heap.size, 9, none⟩ (.int .u8 (uv x.avail)) = V := ⟨_, rfl⟩
    rw [hW6] at O6 K6 C6 ⊢
    clear g9 f9 hW6
    refine ⟨K6.out, ?_⟩
    unfold wpS
    clear q1 q2
    have X6 := Lib.hid (C6.out.blk X3.out (by have := LT.out; omega))
    have B6 := Lib.hid (B3.out.trans (C6.out.below (fun q hq => by subst hq; exact Nat.le_refl _) B3.out.size))
    have x3 : W6.cell? ⟨w.heap.size, 3, none⟩ = some (.int .u32 (uv x.nsid)) := (cell_of_row _ _ 3 _ _ _ X6.out).trans rfl
    have e3 := (uw32 x.nsid).symm
    have E3 := Lib.hid e3
    clear e3
    go_wp2_with (go_at_call 80; go_loud (rw [E3.out]; refine (rput23 64 W.heap.size 64 W.heap.size _ 12 4 (x.nsid.setWidth 64) _ O6.out (by decide) (by decide) (by decide)).mono ?_; rintro r w7 ⟨rfl, ho, hc⟩; have O7 := Lib.hid ho; have B7 := Lib.hid (B6.out.trans (hc.below (fun q hq => by subst hq; exact Nat.le_refl _) B6.out.size)); clear ho hc))
    go_ret2
    have hL : Lay.lay (((Lay.lay (List.replicate 64 0#8) 0 (Wire.le x.count 8)).set 8 x.kind).set 9 x.avail) 12 (Wire.le (x.nsid.setWidth 64) 4) = B := by
      rw [← HB.out, le1, le1, HF0.out, (fit32 x.nsid).2]
      simp only [Lay.lays, List.foldl_cons, List.foldl_nil]
      rw [Lay1 _ 8 _ (by rw [Lay.lay_len (by rw [List.length_replicate, Wire.le_len]; decide), List.length_replicate]; decide), Lay1 _ 9 _ (by rw [List.length_set, Lay.lay_len (by rw [List.length_replicate, Wire.le_len]; decide), List.length_replicate]; decide)]
    have hO := O7.out
    rw [hL] at hO
    exact ⟨_, rfl, hO.bytes, gr_tr D.out B7.out⟩
  · rw [decide_eq_false hk] at he hB
    simp only [Bool.false_eq_true, if_false] at he hB
    subst he; subst hB
    have hq : decide (3 < uv x.kind) = true := decide_eq_true (by have : uv x.kind = x.kind.toNat := rfl; omega)
    go_enter Tryd.func52, Tryd.ntmps52
    go_wp2
    go_ret2
    exact ⟨_, rfl, BytesV.nil _, gr_alloc _ _⟩
namespace Lg
/-- What the reference asks. -/
def noOkR (l : List (BitVec 8)) : Bool := decide ((num l 8 1).toNat ≤ 3) && noRes l
theorem num_one (l : List (BitVec 8)) (a : Nat) (y : BitVec 8) (h : l[a]? = some y) : num l a 1 = y.setWidth 64 := by
  have hc : cut l a 1 = [y] := by
    obtain ⟨h1, rfl⟩ := List.getElem?_eq_some_iff.1 h
    unfold cut
    rw [List.drop_eq_getElem_cons h1]; rfl
  unfold num
  rw [hc, Wire.get_cons]
  show (0#64 <<< 8 ||| y.setWidth 64) = _
  simp
theorem no_same (l : List (BitVec 8)) (h : l.length = 64) : noOkB l = noOkR l := by
  unfold noOkB noOkR
  rw [no_ok l h]
  congr 1
  unfold noOk noRd
  dsimp only
  have := num_lt l 8 1 (by omega) (by decide)
  rw [BitVec.toNat_setWidth, Nat.mod_eq_of_lt (by omega)]
end Lg
set_option maxHeartbeats 6400000 in
set_option maxRecDepth 20000 in
theorem rDecNo_at (l : List (BitVec 8)) (bv : Value) (w : World) (y : No) (e : Int) (hb : BytesV w bv l) (hl : l.length ≤ 5000) (hd : decP 64 noRd noOkR noZ l = (y, e)) :
    Calls Tryd.prog 54 #[bv] w fun r w' => r = .returned (.tuple #[.agg (No.cells y).toArray, .int .i64 e]) ∧ Below w.heap.size w w' := by
  have BV := Lib.hid hb
  obtain ⟨V, hV⟩ : ∃ V, V = w.alloc (.cells #[.int .u64 0, .int .u8 0, .int .u8 0, .int .u32 0] 113) := ⟨_, rfl⟩
  have DV := Lib.hid (show Below w.heap.size w V by rw [hV]; exact gr_alloc w _)
  have XV := Lib.hid (show V.heap[w.heap.size]? = some (.cells #[.int .u64 0, .int .u8 0, .int .u8 0, .int .u32 0] 113 (0, 0)) by rw [hV]; exact heap_alloc_new w _)
  have HV := Lib.hid hV
  have ZS := Lib.hid (show (No.cells noZ).toArray = #[.int .u64 0, .int .u8 0, .int .u8 0, .int .u32 0] from rfl)
  clear hV
  unfold decP at hd
  by_cases p1 : l.length < 64
  · rw [if_pos p1] at hd
    cases hd
    rw [ZS.out]
    have HE := Lib.hid (show chkE l 64 = 4 by unfold chkE; rw [if_pos p1])
    clear p1
    go_enter Tryd.func54, Tryd.ntmps54
    go_upto_region 1 with (fail)
    rw [← HV.out]
    go_wp2_with (first
      | (go_at_call 105; go_loud (refine (check23 _ l 64 64 4 _ rfl (BV.out.below DV.out) (HE.out)).mono ?_; rintro r w1 ⟨rfl, rfl⟩))
      | (refine wpList_store_row rfl 113 (.tmp 2) (.tmp 9) rfl w.heap.size #[.int .u64 0, .int .u8 0, .int .u8 0, .int .u32 0] rfl rfl 113 _ XV.out (by kernel_rfl) rfl (by simp [Value.oneCell']) ?_))
    exact bodyPost_ret (results_row_tmp rfl _ _ w.heap.size 113 #[.int .u64 0, .int .u8 0, .int .u8 0, .int .u32 0] (0, 0) _ rfl (setRow_heap _ _ _ _ _ _ XV.out) Tryd.underlying113 rfl (by kernel_rfl)) rfl ⟨rfl, below_setRow DV.out (Nat.le_refl _) _⟩
  rw [if_neg p1] at hd
  by_cases p2 : 64 < l.length
  · rw [if_pos p2] at hd
    cases hd
    rw [ZS.out]
    have HE := Lib.hid (show chkE l 64 = 5 by unfold chkE; rw [if_neg p1, if_pos p2])
    clear p1 p2
    go_enter Tryd.func54, Tryd.ntmps54
    go_upto_region 1 with (fail)
    rw [← HV.out]
    go_wp2_with (first
      | (go_at_call 105; go_loud (refine (check23 _ l 64 64 5 _ rfl (BV.out.below DV.out) (HE.out)).mono ?_; rintro r w1 ⟨rfl, rfl⟩))
      | (refine wpList_store_row rfl 113 (.tmp 2) (.tmp 9) rfl w.heap.size #[.int .u64 0, .int .u8 0, .int .u8 0, .int .u32 0] rfl rfl 113 _ XV.out (by kernel_rfl) rfl (by simp [Value.oneCell']) ?_))
    exact bodyPost_ret (results_row_tmp rfl _ _ w.heap.size 113 #[.int .u64 0, .int .u8 0, .int .u8 0, .int .u32 0] (0, 0) _ rfl (setRow_heap _ _ _ _ _ _ XV.out) Tryd.underlying113 rfl (by kernel_rfl)) rfl ⟨rfl, below_setRow DV.out (Nat.le_refl _) _⟩
  rw [if_neg p2] at hd
  have HL := Lib.hid (show l.length = 64 by omega)
  have HD := Lib.hid hd
  have HL5 := Lib.hid hl
  clear p1 p2 hd hl
  obtain ⟨g, o, cv, rfl⟩ := BV.out.shapeAt (by rw [HL.out]; decide)
  obtain ⟨y8, hy8⟩ : ∃ z, l[8]? = some z := ⟨_, List.getElem?_eq_getElem (by rw [HL.out]; decide)⟩
  obtain ⟨y9, hy9⟩ : ∃ z, l[9]? = some z := ⟨_, List.getElem?_eq_getElem (by rw [HL.out]; decide)⟩
  have hn8 := num_one l 8 y8 hy8
  have hn9 := num_one l 9 y9 hy9
  have GL := Lib.hid (byt_lt2 BV.out (by rw [HL.out]; decide) g o _ cv rfl)
  have a8 := (BV.out.below DV.out).cellAt hy8
  have A8 := Lib.hid ((BV.out.below DV.out).cellAt hy8)
  have A9 := Lib.hid ((BV.out.below DV.out).cellAt hy9)
  obtain ⟨u10, hu10, hr10, -⟩ := BV.out.cut (P := Tryd.prog) (T := 22) Tryd.underlying22 bszU 10 12 (by omega) (by rw [HL.out]; decide)
  rw [List.drop_take, show (l.drop 10).take (12 - 10) = cut l 10 2 from rfl] at hu10
  obtain ⟨u16, hu16, hr16⟩ := BV.out.cutl (P := Tryd.prog) (T := 22) Tryd.underlying22 bszU 16 (by rw [HL.out]; decide)
  have U10 := Lib.hid hu10; have U16 := Lib.hid hu16
  obtain ⟨z1, hz1⟩ : ∃ z, allZ (cut l 10 2) = z := ⟨_, rfl⟩
  obtain ⟨z2, hz2⟩ : ∃ z, allZ (l.drop 16) = z := ⟨_, rfl⟩
  have Z10 := Lib.hid hz1; have Z16 := Lib.hid hz2
  have hres : noRes l = (z1 && z2) := by unfold noRes; rw [hz1, ← cut_all l 16 48 HL.out.symm, hz2]
  have HRES := Lib.hid hres
  have HOK := Lib.hid (show noOkR l = (decide (y8.toNat ≤ 3) && (z1 && z2)) by
    unfold noOkR; rw [hres, hn8, BitVec.toNat_setWidth, Nat.mod_eq_of_lt (by have := y8.isLt; omega)])
  obtain ⟨x0, hx0⟩ : ∃ x, num l 0 8 = x := ⟨_, rfl⟩
  obtain ⟨x3, hx3⟩ : ∃ x, num l 12 4 = x := ⟨_, rfl⟩
  have HCX := Lib.hid (show (No.cells (noRd l)).toArray = #[.int .u64 (uv x0), .int .u8 (uv y8), .int .u8 (uv y9), .int .u32 (uv (x3.setWidth 32))] by unfold noRd; rw [hx0, hx3, hn8, hn9]; simp [No.cells])
  have X0 := Lib.hid hx0; have X3 := Lib.hid hx3
  have hmm : (l.length : Int) ≤ 5000 := by rw [HL.out]; decide
  rw [HL.out] at hr10 hr16 ⊢
  replace hr10 : ∀ w' : World, (Instr.slice 22 (.slice (some ⟨g, o, none⟩) 64 cv) (some (.int .i64 10)) (some (.int .i64 12)) none).run Tryd.prog w' = .ok u10 w' := hr10
  replace hr16 : ∀ w' : World, (Instr.slice 22 (.slice (some ⟨g, o, none⟩) 64 cv) (some (.int .i64 16)) none none).run Tryd.prog w' = .ok u16 w' := hr16
  have BV4 := Lib.hid (show BytesV w (.slice (some ⟨g, o, none⟩) 64 cv) l by have := BV.out; rwa [HL.out] at this)
  clear hy8 hy9 hn8 hn9 hu10 hu16 hz1 hz2 hx0 hx3 hres hb hmm
  have FMT : noOkR l = false → y = noZ ∧ e = 6 := fun h => by
    have h2 := HD.out
    rw [h] at h2
    simp at h2
    exact ⟨h2.1.symm, h2.2.symm⟩
  by_cases k3 : ¬ y8.toNat ≤ 3
  · have dk : decide (3 < uv y8) = true := decide_eq_true (by have : uv y8 = y8.toNat := rfl; omega)
    obtain ⟨e1, e2⟩ := FMT (by rw [HOK.out, decide_eq_false k3]; rfl)
    rw [e1, e2, ZS.out]
    clear k3
    go_enter Tryd.func54, Tryd.ntmps54
    go_upto_region 1 with (fail)
    rw [← HV.out]
    go_wp2_with (first
      | (go_at_call 105; go_loud (refine (check23 _ l 64 64 0 _ rfl (BV4.out.below DV.out) (by unfold chkE; rw [HL.out]; rfl)).mono ?_; rintro r w1 ⟨rfl, rfl⟩))
      | (refine wpList_store_row rfl 113 (.tmp 2) (.tmp 27) rfl w.heap.size #[.int .u64 0, .int .u8 0, .int .u8 0, .int .u32 0] rfl rfl 113 _ XV.out (by kernel_rfl) rfl (by simp [Value.oneCell']) ?_))
    exact bodyPost_ret (results_row_tmp rfl _ _ w.heap.size 113 #[.int .u64 0, .int .u8 0, .int .u8 0, .int .u32 0] (0, 0) _ rfl (setRow_heap _ _ _ _ _ _ XV.out) Tryd.underlying113 rfl (by kernel_rfl)) rfl ⟨rfl, below_setRow DV.out (Nat.le_refl _) _⟩
  replace k3 := Decidable.not_not.1 k3
  have dk : decide (3 < uv y8) = false := decide_eq_false (by have : uv y8 = y8.toNat := rfl; omega)
  cases z1
  · obtain ⟨e1, e2⟩ := FMT (by rw [HOK.out]; simp)
    rw [e1, e2, ZS.out]
    clear k3
    go_enter Tryd.func54, Tryd.ntmps54
    go_upto_region 1 with (fail)
    rw [← HV.out]
    go_wp2_with (first
      | (go_at_call 105; go_loud (refine (check23 _ l 64 64 0 _ rfl (BV4.out.below DV.out) (by unfold chkE; rw [HL.out]; rfl)).mono ?_; rintro r w1 ⟨rfl, rfl⟩))
      | (go_at_call 107; go_loud ((with_reducible refine (rZeros_at u10 (cut l 10 2) false _ (U10.out.below DV.out) Z10.out).mono ?_); rintro r wz ⟨rfl, rfl⟩))
      | (refine wpList_store_row rfl 113 (.tmp 2) (.tmp 27) rfl w.heap.size #[.int .u64 0, .int .u8 0, .int .u8 0, .int .u32 0] rfl rfl 113 _ XV.out (by kernel_rfl) rfl (by simp [Value.oneCell']) ?_))
    exact bodyPost_ret (results_row_tmp rfl _ _ w.heap.size 113 #[.int .u64 0, .int .u8 0, .int .u8 0, .int .u32 0] (0, 0) _ rfl (setRow_heap _ _ _ _ _ _ XV.out) Tryd.underlying113 rfl (by kernel_rfl)) rfl ⟨rfl, below_setRow DV.out (Nat.le_refl _) _⟩
  cases z2
  · obtain ⟨e1, e2⟩ := FMT (by rw [HOK.out]; simp)
    rw [e1, e2, ZS.out]
    clear k3
    go_enter Tryd.func54, Tryd.ntmps54
    go_upto_region 1 with (fail)
    rw [← HV.out]
    go_wp2_with (first
      | (go_at_call 105; go_loud (refine (check23 _ l 64 64 0 _ rfl (BV4.out.below DV.out) (by unfold chkE; rw [HL.out]; rfl)).mono ?_; rintro r w1 ⟨rfl, rfl⟩))
      | (go_at_call 107; go_loud ((with_reducible refine (rZeros_at u10 (cut l 10 2) true _ (U10.out.below DV.out) Z10.out).mono ?_); rintro r wz ⟨rfl, rfl⟩))
      | (go_at_call 107; go_loud ((with_reducible refine (rZeros_at u16 (l.drop 16) false _ (U16.out.below DV.out) Z16.out).mono ?_); rintro r wz2 ⟨rfl, rfl⟩))
      | (refine wpList_store_row rfl 113 (.tmp 2) (.tmp 27) rfl w.heap.size #[.int .u64 0, .int .u8 0, .int .u8 0, .int .u32 0] rfl rfl 113 _ XV.out (by kernel_rfl) rfl (by simp [Value.oneCell']) ?_))
    exact bodyPost_ret (results_row_tmp rfl _ _ w.heap.size 113 #[.int .u64 0, .int .u8 0, .int .u8 0, .int .u32 0] (0, 0) _ rfl (setRow_heap _ _ _ _ _ _ XV.out) Tryd.underlying113 rfl (by kernel_rfl)) rfl ⟨rfl, below_setRow DV.out (Nat.le_refl _) _⟩
  obtain ⟨e1, e2⟩ : y = noRd l ∧ e = 0 := by
    have h2 := HD.out
    rw [HOK.out, decide_eq_true k3] at h2
    simp at h2
    exact ⟨h2.1.symm, h2.2.symm⟩
  rw [e1, e2, HCX.out]
  clear k3
  go_enter Tryd.func54, Tryd.ntmps54
  go_upto_region 1 with (fail)
  rw [← HV.out]
  go_upto_region 6 with (first
    | (go_at_call 105; go_loud (refine (check23 _ l 64 64 0 _ rfl (BV4.out.below DV.out) (by unfold chkE; rw [HL.out]; rfl)).mono ?_; rintro r w1 ⟨rfl, rfl⟩))
    | (go_at_call 107; go_loud ((with_reducible refine (rZeros_at u10 (cut l 10 2) true _ (U10.out.below DV.out) Z10.out).mono ?_); rintro r wz ⟨rfl, rfl⟩))
    | (go_at_call 107; go_loud ((with_reducible refine (rZeros_at u16 (l.drop 16) true _ (U16.out.below DV.out) Z16.out).mono ?_); rintro r wz2 ⟨rfl, rfl⟩)))
  clear dk a8 hr10 hr16
  have q8 : ∀ y : KeepT (fun b => b = w.heap.size) V, y.val.cell? ⟨g, o + 8, none⟩ = some (.int .u8 (uv y8)) := fun y => y.cell A8.out (by have := GL.out; omega)
  have q9 : ∀ y : KeepT (fun b => b = w.heap.size) V, y.val.cell? ⟨g, o + 9, none⟩ = some (.int .u8 (uv y9)) := fun y => y.cell A9.out (by have := GL.out; omega)
  refine wp_region_planW (fun b => b = w.heap.size) [(true, 0), (true, 2), (true, 3), (true, 4), (true, 5), (true, 6), (true, 7), (true, 8), (false, 1), (false, 9), (true, 10), (true, 11), (false, 12), (true, 13)] (by kernel_rfl) (by kernel_rfl) (by intro c a d v w h; cases d <;> exact h) ?_
  intro W1 K1 C1
  repeat (refine wpS_firm rfl (fun K hK => ?_); simp only [Keep]; go_simp; refine hK _ ?_; clear hK K)
  refine wpS_chain rfl ?_
  have B1 := Lib.hid ((BV4.out.below DV.out).below C1.out)
  go_wp2_with (go_at_call 106; go_loud (refine (rget23 _ l 0 8 x0 _ B1.out HL5.out (by rw [HL.out]; decide) (by decide) (by decide) X0.out).mono ?_; rintro r wz ⟨rfl, rfl⟩))
  refine ⟨K1.out, ?_⟩
  refine wpS_chain rfl ?_
  go_wp2_with (go_at_call 106; go_loud (refine (rget23 _ l 12 4 x3 _ B1.out HL5.out (by rw [HL.out]; decide) (by decide) (by decide) X3.out).mono ?_; rintro r wz ⟨rfl, rfl⟩))
  refine ⟨K1.out, ?_⟩
  repeat (refine wpS_firm rfl (fun K hK => ?_); simp only [Keep]; go_simp; refine hK _ ?_; clear hK K)
  refine wpS_chain rfl ?_
  have X1 := Lib.hid (blk_below XV.out C1.out)
  go_wp2_with (refine wpList_store_row rfl 113 (.tmp 2) (.tmp 39) rfl w.heap.size #[.int .u64 (uv x0), .int .u8 (uv y8), .int .u8 (uv y9), .int .u32 (uv (x3.setWidth 32))] rfl rfl 113 _ X1.out (by kernel_rfl) rfl (by simp [Value.oneCell']) ?_)
  refine ⟨K1.out.row rfl _, ?_⟩
  repeat (refine wpS_firm rfl (fun K hK => ?_); simp only [Keep]; go_simp; refine hK _ ?_; clear hK K)
  unfold wpS
  go_wp2
  exact bodyPost_ret (results_row_tmp rfl _ _ w.heap.size 113 #[.int .u64 (uv x0), .int .u8 (uv y8), .int .u8 (uv y9), .int .u32 (uv (x3.setWidth 32))] (0, 0) _ rfl (setRow_heap _ _ _ _ _ _ X1.out) Tryd.underlying113 rfl (by kernel_rfl)) rfl ⟨rfl, below_setRow (gr_tr DV.out C1.out) (Nat.le_refl _) _⟩
end Go.Proofs.YthnnopjakpjoeaaDoor
