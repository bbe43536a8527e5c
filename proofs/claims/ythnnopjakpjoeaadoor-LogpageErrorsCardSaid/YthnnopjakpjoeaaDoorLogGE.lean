/- The reference's EncodeError: the bytes are new. Out of XLogQ. -/
import Derived.Test.YthnnopjakpjoeaaDoorLogG
import Derived.Test.YthnnopjakpjoeaaDoorLogR
import Derived.Test.YthnnopjakpjoeaaDoorRows2
namespace Go.Proofs.YthnnopjakpjoeaaDoor
open Go.RowKit Lg
set_option linter.unusedVariables false
set_option linter.unusedSimpArgs false
theorem off_fresh {base g n c : Nat} (h : base ≤ g) : Off (fun b => b < base) (.slice (some ⟨g, 0, none⟩) n c) := by
  intro g' o n' c' e hlt
  injection e with e1 e2 e3
  injection e1 with e1
  injection e1 with e1 e4 e5
  subst e1
  omega
theorem off_nil {B : Nat → Prop} : Off B (.slice none 0 0) := by
  intro g' o n' c' e
  injection e with e1 e2 e3
  cases e1
theorem sum_st_falsefalse (s : St) (h : s.typ.toNat ≤ 7) (hm : s.more = false) (hn : s.never = false) : 2#64 * BitVec.setWidth 64 s.code + 512#64 * BitVec.setWidth 64 s.typ = stW s := by
  have hc := s.code.isLt
  apply BitVec.eq_of_toNat_eq
  rw [stW_nat s h]
  unfold stN
  rw [hm, hn]
  simp only [BitVec.toNat_add, BitVec.toNat_mul, BitVec.toNat_setWidth, BitVec.toNat_ofNat, if_true, if_false, Bool.false_eq_true]
  omega
theorem sum_st_falsetrue (s : St) (h : s.typ.toNat ≤ 7) (hm : s.more = false) (hn : s.never = true) : 2#64 * BitVec.setWidth 64 s.code + 512#64 * BitVec.setWidth 64 s.typ + 32768#64 = stW s := by
  have hc := s.code.isLt
  apply BitVec.eq_of_toNat_eq
  rw [stW_nat s h]
  unfold stN
  rw [hm, hn]
  simp only [BitVec.toNat_add, BitVec.toNat_mul, BitVec.toNat_setWidth, BitVec.toNat_ofNat, if_true, if_false, Bool.false_eq_true]
  omega
theorem sum_st_truefalse (s : St) (h : s.typ.toNat ≤ 7) (hm : s.more = true) (hn : s.never = false) : 2#64 * BitVec.setWidth 64 s.code + 512#64 * BitVec.setWidth 64 s.typ + 16384#64 = stW s := by
  have hc := s.code.isLt
  apply BitVec.eq_of_toNat_eq
  rw [stW_nat s h]
  unfold stN
  rw [hm, hn]
  simp only [BitVec.toNat_add, BitVec.toNat_mul, BitVec.toNat_setWidth, BitVec.toNat_ofNat, if_true, if_false, Bool.false_eq_true]
  omega
theorem sum_st_truetrue (s : St) (h : s.typ.toNat ≤ 7) (hm : s.more = true) (hn : s.never = true) : 2#64 * BitVec.setWidth 64 s.code + 512#64 * BitVec.setWidth 64 s.typ + 16384#64 + 32768#64 = stW s := by
  have hc := s.code.isLt
  apply BitVec.eq_of_toNat_eq
  rw [stW_nat s h]
  unfold stN
  rw [hm, hn]
  simp only [BitVec.toNat_add, BitVec.toNat_mul, BitVec.toNat_setWidth, BitVec.toNat_ofNat, if_true, if_false, Bool.false_eq_true]
  omega
set_option maxHeartbeats 6400000 in
set_option maxRecDepth 20000 in
theorem rEncEr_own (x : Er) (e : Int) (B : List (BitVec 8)) (w : World) (he : erE x = e) (hB : erR x = B) :
    Calls Tryd.prog 26 #[.agg (Er.cells x).toArray] w fun r w' => ∃ u, r = .returned (.tuple #[u, .int .i64 e]) ∧ BytesV w' u B ∧ Off (fun b => b < w.heap.size) u ∧ Below w.heap.size w w' := by
  unfold erE at he
  unfold erR at hB
  unfold erOk at he hB
  obtain ⟨mo, hmo⟩ : ∃ b, x.st.more = b := ⟨_, rfl⟩
  obtain ⟨nv, hnv⟩ : ∃ b, x.st.never = b := ⟨_, rfl⟩
  rw [show (Er.cells x).toArray = #[.int .u64 (uv x.count), .int .u16 (uv x.queue), .int .u16 (uv x.id), .int .u8 (uv x.st.typ), .int .u8 (uv x.st.code), .bool mo, .bool nv, .int .u16 (uv x.loc), .int .u64 (uv x.lba), .int .u32 (uv x.nsid), .int .u64 (uv x.spec)] by rw [← hmo, ← hnv]; rfl]
  have HMO := Lib.hid hmo; have HNV := Lib.hid hnv
  clear hmo hnv
  by_cases hk : x.st.typ.toNat ≤ 7
  · rw [decide_eq_true hk] at he hB
    simp only [if_true] at he hB
    subst he
    have HK := Lib.hid hk
    have hst : Wire.putB (stW x.st) 2 = Wire.le (stW x.st) 2 := (fit_any (stW x.st) 2 (by decide) (by decide) (by rw [stW_nat _ hk]; have := stN_lt x.st hk; omega)).2
    have FIN := Lib.hid (show Lay.lay (Lay.lay (Lay.lay (Lay.lay (Lay.lay (Lay.lay (Lay.lay (Lay.lay (List.replicate 64 0#8) 0 (Wire.le x.count 8)) 8 (Wire.le (x.queue.setWidth 64) 2)) 10 (Wire.le (x.id.setWidth 64) 2)) 12 (Wire.le (stW x.st) 2)) 14 (Wire.le (x.loc.setWidth 64) 2)) 16 (Wire.le x.lba 8)) 24 (Wire.le (x.nsid.setWidth 64) 4)) 32 (Wire.le x.spec 8) = B by
      rw [← hB, ← er_lays x hk, (fit64 x.count).2, (fit16 x.queue).2, (fit16 x.id).2, hst, (fit16 x.loc).2, (fit64 x.lba).2, (fit32 x.nsid).2, (fit64 x.spec).2]
      rfl)
    have hq : decide (7 < uv x.st.typ) = false := decide_eq_false (by have : uv x.st.typ = x.st.typ.toNat := rfl; omega)
    obtain ⟨W, hW⟩ : ∃ W, W = w.alloc (.cells #[.int .u64 (uv x.count), .int .u16 (uv x.queue), .int .u16 (uv x.id), .int .u8 (uv x.st.typ), .int .u8 (uv x.st.code), .bool mo, .bool nv, .int .u16 (uv x.loc), .int .u64 (uv x.lba), .int .u32 (uv x.nsid), .int .u64 (uv x.spec)] 57) := ⟨_, rfl⟩
    have D := Lib.hid (show Below w.heap.size w W by rw [hW]; exact gr_alloc w _)
    have X := Lib.hid (show W.heap[w.heap.size]? = some (.cells #[.int .u64 (uv x.count), .int .u16 (uv x.queue), .int .u16 (uv x.id), .int .u8 (uv x.st.typ), .int .u8 (uv x.st.code), .bool mo, .bool nv, .int .u16 (uv x.loc), .int .u64 (uv x.lba), .int .u32 (uv x.nsid), .int .u64 (uv x.spec)] 57 (0, 0)) by rw [hW]; exact heap_alloc_new w _)
    have c3 : W.cell? ⟨w.heap.size, 3, none⟩ = some (.int .u8 (uv x.st.typ)) := (cell_of_row _ _ 3 _ _ _ X.out).trans rfl
    have LT := Lib.hid (show w.heap.size < W.heap.size by rw [hW, World.size_alloc]; omega)
    have HW := Lib.hid hW
    clear hW hk hB hst
    cases mo
    · cases nv
      · skip
        go_enter Tryd.func26, Tryd.ntmps26
        go_upto_region 1 with (fail)
        rw [← HW.out]
        go_upto_region 4 with (refine make_law bytesOk rfl _ _ rfl W.heap.size .i64 .i64 64 64 64 rfl rfl rfl rfl (by omega) (by omega) (Nat.le_refl _) ?_; intro w0 hown hgrow; have O0 := Lib.hid (show OwnN 64 w0 W.heap.size W.heap.size 64 (List.replicate 64 0#8) by have h := hown; rw [by8_made] at h; exact h); have B0 := Lib.hid ((Below.refl W.heap.size W).grown hgrow (Nat.le_refl _) (by intro k hk; cases hk)); have Xw0 := Lib.hid (blk_below X.out B0.out); clear hown hgrow)
        clear c3 hq
        have c0 : w0.cell? ⟨w.heap.size, 0, none⟩ = some (.int .u64 (uv x.count)) := (cell_of_row _ _ 0 _ _ _ Xw0.out).trans rfl
        go_upto_region 5 with (go_at_call 80; go_loud (refine (rput23 64 W.heap.size 64 W.heap.size _ 0 8 x.count _ O0.out (by decide) (by decide) (by decide)).mono ?_; rintro r w1 ⟨rfl, ho, hc⟩; have O1 := Lib.hid ho; have Xw1 := Lib.hid (hc.blk Xw0.out (by have := LT.out; omega)); have B1 := Lib.hid (B0.out.trans (hc.below (fun q hq => by subst hq; exact Nat.le_refl _) B0.out.size)); clear ho hc))
        clear c0
        have c1 : w1.cell? ⟨w.heap.size, 1, none⟩ = some (.int .u16 (uv x.queue)) := (cell_of_row _ _ 1 _ _ _ Xw1.out).trans rfl
        go_upto_region 6 with (go_at_call 80; go_loud (rw [show uv x.queue = uv (x.queue.setWidth 64) from (uw16 x.queue).symm]; refine (rput23 64 W.heap.size 64 W.heap.size _ 8 2 (x.queue.setWidth 64) _ O1.out (by decide) (by decide) (by decide)).mono ?_; rintro r w2 ⟨rfl, ho, hc⟩; have O2 := Lib.hid ho; have Xw2 := Lib.hid (hc.blk Xw1.out (by have := LT.out; omega)); have B2 := Lib.hid (B1.out.trans (hc.below (fun q hq => by subst hq; exact Nat.le_refl _) B1.out.size)); clear ho hc))
        clear c1
        have c2 : w2.cell? ⟨w.heap.size, 2, none⟩ = some (.int .u16 (uv x.id)) := (cell_of_row _ _ 2 _ _ _ Xw2.out).trans rfl
        go_upto_region 7 with (go_at_call 80; go_loud (rw [show uv x.id = uv (x.id.setWidth 64) from (uw16 x.id).symm]; refine (rput23 64 W.heap.size 64 W.heap.size _ 10 2 (x.id.setWidth 64) _ O2.out (by decide) (by decide) (by decide)).mono ?_; rintro r w3 ⟨rfl, ho, hc⟩; have O3 := Lib.hid ho; have Xw3 := Lib.hid (hc.blk Xw2.out (by have := LT.out; omega)); have B3 := Lib.hid (B2.out.trans (hc.below (fun q hq => by subst hq; exact Nat.le_refl _) B2.out.size)); clear ho hc))
        clear c2
        have c3 : w3.cell? ⟨w.heap.size, 3, none⟩ = some (.int .u8 (uv x.st.typ)) := (cell_of_row _ _ 3 _ _ _ Xw3.out).trans rfl
        have c4 : w3.cell? ⟨w.heap.size, 4, none⟩ = some (.int .u8 (uv x.st.code)) := (cell_of_row _ _ 4 _ _ _ Xw3.out).trans rfl
        have c5 : w3.cell? ⟨w.heap.size, 5, none⟩ = some (.bool false) := (cell_of_row _ _ 5 _ _ _ Xw3.out).trans rfl
        have c6 : w3.cell? ⟨w.heap.size, 6, none⟩ = some (.bool false) := (cell_of_row _ _ 6 _ _ _ Xw3.out).trans rfl
        go_upto_region 13 with (go_at_call 80; go_loud (refine (rput23 64 W.heap.size 64 W.heap.size _ 12 2 _ _ O3.out (by decide) (by decide) (by decide)).mono ?_; rintro r w4 ⟨rfl, ho, hc⟩; have O4 := Lib.hid ho; have Xw4 := Lib.hid (hc.blk Xw3.out (by have := LT.out; omega)); have B4 := Lib.hid (B3.out.trans (hc.below (fun q hq => by subst hq; exact Nat.le_refl _) B3.out.size)); clear ho hc))
        clear c3 c4 c5 c6
        have c7 : w4.cell? ⟨w.heap.size, 7, none⟩ = some (.int .u16 (uv x.loc)) := (cell_of_row _ _ 7 _ _ _ Xw4.out).trans rfl
        go_upto_region 14 with (go_at_call 80; go_loud (rw [show uv x.loc = uv (x.loc.setWidth 64) from (uw16 x.loc).symm]; refine (rput23 64 W.heap.size 64 W.heap.size _ 14 2 (x.loc.setWidth 64) _ O4.out (by decide) (by decide) (by decide)).mono ?_; rintro r w5 ⟨rfl, ho, hc⟩; have O5 := Lib.hid ho; have Xw5 := Lib.hid (hc.blk Xw4.out (by have := LT.out; omega)); have B5 := Lib.hid (B4.out.trans (hc.below (fun q hq => by subst hq; exact Nat.le_refl _) B4.out.size)); clear ho hc))
        clear c7
        have c8 : w5.cell? ⟨w.heap.size, 8, none⟩ = some (.int .u64 (uv x.lba)) := (cell_of_row _ _ 8 _ _ _ Xw5.out).trans rfl
        go_upto_region 15 with (go_at_call 80; go_loud (refine (rput23 64 W.heap.size 64 W.heap.size _ 16 8 x.lba _ O5.out (by decide) (by decide) (by decide)).mono ?_; rintro r w6 ⟨rfl, ho, hc⟩; have O6 := Lib.hid ho; have Xw6 := Lib.hid (hc.blk Xw5.out (by have := LT.out; omega)); have B6 := Lib.hid (B5.out.trans (hc.below (fun q hq => by subst hq; exact Nat.le_refl _) B5.out.size)); clear ho hc))
        clear c8
        have c9 : w6.cell? ⟨w.heap.size, 9, none⟩ = some (.int .u32 (uv x.nsid)) := (cell_of_row _ _ 9 _ _ _ Xw6.out).trans rfl
        go_upto_region 16 with (go_at_call 80; go_loud (rw [show uv x.nsid = uv (x.nsid.setWidth 64) from (uw32 x.nsid).symm]; refine (rput23 64 W.heap.size 64 W.heap.size _ 24 4 (x.nsid.setWidth 64) _ O6.out (by decide) (by decide) (by decide)).mono ?_; rintro r w7 ⟨rfl, ho, hc⟩; have O7 := Lib.hid ho; have Xw7 := Lib.hid (hc.blk Xw6.out (by have := LT.out; omega)); have B7 := Lib.hid (B6.out.trans (hc.below (fun q hq => by subst hq; exact Nat.le_refl _) B6.out.size)); clear ho hc))
        clear c9
        have c10 : w7.cell? ⟨w.heap.size, 10, none⟩ = some (.int .u64 (uv x.spec)) := (cell_of_row _ _ 10 _ _ _ Xw7.out).trans rfl
        go_wp2_with (go_at_call 80; go_loud (refine (rput23 64 W.heap.size 64 W.heap.size _ 32 8 x.spec _ O7.out (by decide) (by decide) (by decide)).mono ?_; rintro r w8 ⟨rfl, ho, hc⟩; have O8 := Lib.hid ho; have Xw8 := Lib.hid (hc.blk Xw7.out (by have := LT.out; omega)); have B8 := Lib.hid (B7.out.trans (hc.below (fun q hq => by subst hq; exact Nat.le_refl _) B7.out.size)); clear ho hc))
        clear c10
        go_ret2
        refine ⟨_, rfl, ?_, off_fresh (Nat.le_of_lt LT.out), gr_tr D.out B8.out⟩
        have hO := O8.out
        rw [sum_st_falsefalse x.st HK.out HMO.out HNV.out, FIN.out] at hO
        exact hO.bytes
      · skip
        go_enter Tryd.func26, Tryd.ntmps26
        go_upto_region 1 with (fail)
        rw [← HW.out]
        go_upto_region 4 with (refine make_law bytesOk rfl _ _ rfl W.heap.size .i64 .i64 64 64 64 rfl rfl rfl rfl (by omega) (by omega) (Nat.le_refl _) ?_; intro w0 hown hgrow; have O0 := Lib.hid (show OwnN 64 w0 W.heap.size W.heap.size 64 (List.replicate 64 0#8) by have h := hown; rw [by8_made] at h; exact h); have B0 := Lib.hid ((Below.refl W.heap.size W).grown hgrow (Nat.le_refl _) (by intro k hk; cases hk)); have Xw0 := Lib.hid (blk_below X.out B0.out); clear hown hgrow)
        clear c3 hq
        have c0 : w0.cell? ⟨w.heap.size, 0, none⟩ = some (.int .u64 (uv x.count)) := (cell_of_row _ _ 0 _ _ _ Xw0.out).trans rfl
        go_upto_region 5 with (go_at_call 80; go_loud (refine (rput23 64 W.heap.size 64 W.heap.size _ 0 8 x.count _ O0.out (by decide) (by decide) (by decide)).mono ?_; rintro r w1 ⟨rfl, ho, hc⟩; have O1 := Lib.hid ho; have Xw1 := Lib.hid (hc.blk Xw0.out (by have := LT.out; omega)); have B1 := Lib.hid (B0.out.trans (hc.below (fun q hq => by subst hq; exact Nat.le_refl _) B0.out.size)); clear ho hc))
        clear c0
        have c1 : w1.cell? ⟨w.heap.size, 1, none⟩ = some (.int .u16 (uv x.queue)) := (cell_of_row _ _ 1 _ _ _ Xw1.out).trans rfl
        go_upto_region 6 with (go_at_call 80; go_loud (rw [show uv x.queue = uv (x.queue.setWidth 64) from (uw16 x.queue).symm]; refine (rput23 64 W.heap.size 64 W.heap.size _ 8 2 (x.queue.setWidth 64) _ O1.out (by decide) (by decide) (by decide)).mono ?_; rintro r w2 ⟨rfl, ho, hc⟩; have O2 := Lib.hid ho; have Xw2 := Lib.hid (hc.blk Xw1.out (by have := LT.out; omega)); have B2 := Lib.hid (B1.out.trans (hc.below (fun q hq => by subst hq; exact Nat.le_refl _) B1.out.size)); clear ho hc))
        clear c1
        have c2 : w2.cell? ⟨w.heap.size, 2, none⟩ = some (.int .u16 (uv x.id)) := (cell_of_row _ _ 2 _ _ _ Xw2.out).trans rfl
        go_upto_region 7 with (go_at_call 80; go_loud (rw [show uv x.id = uv (x.id.setWidth 64) from (uw16 x.id).symm]; refine (rput23 64 W.heap.size 64 W.heap.size _ 10 2 (x.id.setWidth 64) _ O2.out (by decide) (by decide) (by decide)).mono ?_; rintro r w3 ⟨rfl, ho, hc⟩; have O3 := Lib.hid ho; have Xw3 := Lib.hid (hc.blk Xw2.out (by have := LT.out; omega)); have B3 := Lib.hid (B2.out.trans (hc.below (fun q hq => by subst hq; exact Nat.le_refl _) B2.out.size)); clear ho hc))
        clear c2
        have c3 : w3.cell? ⟨w.heap.size, 3, none⟩ = some (.int .u8 (uv x.st.typ)) := (cell_of_row _ _ 3 _ _ _ Xw3.out).trans rfl
        have c4 : w3.cell? ⟨w.heap.size, 4, none⟩ = some (.int .u8 (uv x.st.code)) := (cell_of_row _ _ 4 _ _ _ Xw3.out).trans rfl
        have c5 : w3.cell? ⟨w.heap.size, 5, none⟩ = some (.bool false) := (cell_of_row _ _ 5 _ _ _ Xw3.out).trans rfl
        have c6 : w3.cell? ⟨w.heap.size, 6, none⟩ = some (.bool true) := (cell_of_row _ _ 6 _ _ _ Xw3.out).trans rfl
        go_upto_region 13 with (go_at_call 80; go_loud (refine (rput23 64 W.heap.size 64 W.heap.size _ 12 2 _ _ O3.out (by decide) (by decide) (by decide)).mono ?_; rintro r w4 ⟨rfl, ho, hc⟩; have O4 := Lib.hid ho; have Xw4 := Lib.hid (hc.blk Xw3.out (by have := LT.out; omega)); have B4 := Lib.hid (B3.out.trans (hc.below (fun q hq => by subst hq; exact Nat.le_refl _) B3.out.size)); clear ho hc))
        clear c3 c4 c5 c6
        have c7 : w4.cell? ⟨w.heap.size, 7, none⟩ = some (.int .u16 (uv x.loc)) := (cell_of_row _ _ 7 _ _ _ Xw4.out).trans rfl
        go_upto_region 14 with (go_at_call 80; go_loud (rw [show uv x.loc = uv (x.loc.setWidth 64) from (uw16 x.loc).symm]; refine (rput23 64 W.heap.size 64 W.heap.size _ 14 2 (x.loc.setWidth 64) _ O4.out (by decide) (by decide) (by decide)).mono ?_; rintro r w5 ⟨rfl, ho, hc⟩; have O5 := Lib.hid ho; have Xw5 := Lib.hid (hc.blk Xw4.out (by have := LT.out; omega)); have B5 := Lib.hid (B4.out.trans (hc.below (fun q hq => by subst hq; exact Nat.le_refl _) B4.out.size)); clear ho hc))
        clear c7
        have c8 : w5.cell? ⟨w.heap.size, 8, none⟩ = some (.int .u64 (uv x.lba)) := (cell_of_row _ _ 8 _ _ _ Xw5.out).trans rfl
        go_upto_region 15 with (go_at_call 80; go_loud (refine (rput23 64 W.heap.size 64 W.heap.size _ 16 8 x.lba _ O5.out (by decide) (by decide) (by decide)).mono ?_; rintro r w6 ⟨rfl, ho, hc⟩; have O6 := Lib.hid ho; have Xw6 := Lib.hid (hc.blk Xw5.out (by have := LT.out; omega)); have B6 := Lib.hid (B5.out.trans (hc.below (fun q hq => by subst hq; exact Nat.le_refl _) B5.out.size)); clear ho hc))
        clear c8
        have c9 : w6.cell? ⟨w.heap.size, 9, none⟩ = some (.int .u32 (uv x.nsid)) := (cell_of_row _ _ 9 _ _ _ Xw6.out).trans rfl
        go_upto_region 16 with (go_at_call 80; go_loud (rw [show uv x.nsid = uv (x.nsid.setWidth 64) from (uw32 x.nsid).symm]; refine (rput23 64 W.heap.size 64 W.heap.size _ 24 4 (x.nsid.setWidth 64) _ O6.out (by decide) (by decide) (by decide)).mono ?_; rintro r w7 ⟨rfl, ho, hc⟩; have O7 := Lib.hid ho; have Xw7 := Lib.hid (hc.blk Xw6.out (by have := LT.out; omega)); have B7 := Lib.hid (B6.out.trans (hc.below (fun q hq => by subst hq; exact Nat.le_refl _) B6.out.size)); clear ho hc))
        clear c9
        have c10 : w7.cell? ⟨w.heap.size, 10, none⟩ = some (.int .u64 (uv x.spec)) := (cell_of_row _ _ 10 _ _ _ Xw7.out).trans rfl
        go_wp2_with (go_at_call 80; go_loud (refine (rput23 64 W.heap.size 64 W.heap.size _ 32 8 x.spec _ O7.out (by decide) (by decide) (by decide)).mono ?_; rintro r w8 ⟨rfl, ho, hc⟩; have O8 := Lib.hid ho; have Xw8 := Lib.hid (hc.blk Xw7.out (by have := LT.out; omega)); have B8 := Lib.hid (B7.out.trans (hc.below (fun q hq => by subst hq; exact Nat.le_refl _) B7.out.size)); clear ho hc))
        clear c10
        go_ret2
        refine ⟨_, rfl, ?_, off_fresh (Nat.le_of_lt LT.out), gr_tr D.out B8.out⟩
        have hO := O8.out
        rw [sum_st_falsetrue x.st HK.out HMO.out HNV.out, FIN.out] at hO
        exact hO.bytes
    · cases nv
      · skip
        go_enter Tryd.func26, Tryd.ntmps26
        go_upto_region 1 with (fail)
        rw [← HW.out]
        go_upto_region 4 with (refine make_law bytesOk rfl _ _ rfl W.heap.size .i64 .i64 64 64 64 rfl rfl rfl rfl (by omega) (by omega) (Nat.le_refl _) ?_; intro w0 hown hgrow; have O0 := Lib.hid (show OwnN 64 w0 W.heap.size W.heap.size 64 (List.replicate 64 0#8) by have h := hown; rw [by8_made] at h; exact h); have B0 := Lib.hid ((Below.refl W.heap.size W).grown hgrow (Nat.le_refl _) (by intro k hk; cases hk)); have Xw0 := Lib.hid (blk_below X.out B0.out); clear hown hgrow)
        clear c3 hq
        have c0 : w0.cell? ⟨w.heap.size, 0, none⟩ = some (.int .u64 (uv x.count)) := (cell_of_row _ _ 0 _ _ _ Xw0.out).trans rfl
        go_upto_region 5 with (go_at_call 80; go_loud (refine (rput23 64 W.heap.size 64 W.heap.size _ 0 8 x.count _ O0.out (by decide) (by decide) (by decide)).mono ?_; rintro r w1 ⟨rfl, ho, hc⟩; have O1 := Lib.hid ho; have Xw1 := Lib.hid (hc.blk Xw0.out (by have := LT.out; omega)); have B1 := Lib.hid (B0.out.trans (hc.below (fun q hq => by subst hq; exact Nat.le_refl _) B0.out.size)); clear ho hc))
        clear c0
        have c1 : w1.cell? ⟨w.heap.size, 1, none⟩ = some (.int .u16 (uv x.queue)) := (cell_of_row _ _ 1 _ _ _ Xw1.out).trans rfl
        go_upto_region 6 with (go_at_call 80; go_loud (rw [show uv x.queue = uv (x.queue.setWidth 64) from (uw16 x.queue).symm]; refine (rput23 64 W.heap.size 64 W.heap.size _ 8 2 (x.queue.setWidth 64) _ O1.out (by decide) (by decide) (by decide)).mono ?_; rintro r w2 ⟨rfl, ho, hc⟩; have O2 := Lib.hid ho; have Xw2 := Lib.hid (hc.blk Xw1.out (by have := LT.out; omega)); have B2 := Lib.hid (B1.out.trans (hc.below (fun q hq => by subst hq; exact Nat.le_refl _) B1.out.size)); clear ho hc))
        clear c1
        have c2 : w2.cell? ⟨w.heap.size, 2, none⟩ = some (.int .u16 (uv x.id)) := (cell_of_row _ _ 2 _ _ _ Xw2.out).trans rfl
        go_upto_region 7 with (go_at_call 80; go_loud (rw [show uv x.id = uv (x.id.setWidth 64) from (uw16 x.id).symm]; refine (rput23 64 W.heap.size 64 W.heap.size _ 10 2 (x.id.setWidth 64) _ O2.out (by decide) (by decide) (by decide)).mono ?_; rintro r w3 ⟨rfl, ho, hc⟩; have O3 := Lib.hid ho; have Xw3 := Lib.hid (hc.blk Xw2.out (by have := LT.out; omega)); have B3 := Lib.hid (B2.out.trans (hc.below (fun q hq => by subst hq; exact Nat.le_refl _) B2.out.size)); clear ho hc))
        clear c2
        have c3 : w3.cell? ⟨w.heap.size, 3, none⟩ = some (.int .u8 (uv x.st.typ)) := (cell_of_row _ _ 3 _ _ _ Xw3.out).trans rfl
        have c4 : w3.cell? ⟨w.heap.size, 4, none⟩ = some (.int .u8 (uv x.st.code)) := (cell_of_row _ _ 4 _ _ _ Xw3.out).trans rfl
        have c5 : w3.cell? ⟨w.heap.size, 5, none⟩ = some (.bool true) := (cell_of_row _ _ 5 _ _ _ Xw3.out).trans rfl
        have c6 : w3.cell? ⟨w.heap.size, 6, none⟩ = some (.bool false) := (cell_of_row _ _ 6 _ _ _ Xw3.out).trans rfl
        go_upto_region 13 with (go_at_call 80; go_loud (refine (rput23 64 W.heap.size 64 W.heap.size _ 12 2 _ _ O3.out (by decide) (by decide) (by decide)).mono ?_; rintro r w4 ⟨rfl, ho, hc⟩; have O4 := Lib.hid ho; have Xw4 := Lib.hid (hc.blk Xw3.out (by have := LT.out; omega)); have B4 := Lib.hid (B3.out.trans (hc.below (fun q hq => by subst hq; exact Nat.le_refl _) B3.out.size)); clear ho hc))
        clear c3 c4 c5 c6
        have c7 : w4.cell? ⟨w.heap.size, 7, none⟩ = some (.int .u16 (uv x.loc)) := (cell_of_row _ _ 7 _ _ _ Xw4.out).trans rfl
        go_upto_region 14 with (go_at_call 80; go_loud (rw [show uv x.loc = uv (x.loc.setWidth 64) from (uw16 x.loc).symm]; refine (rput23 64 W.heap.size 64 W.heap.size _ 14 2 (x.loc.setWidth 64) _ O4.out (by decide) (by decide) (by decide)).mono ?_; rintro r w5 ⟨rfl, ho, hc⟩; have O5 := Lib.hid ho; have Xw5 := Lib.hid (hc.blk Xw4.out (by have := LT.out; omega)); have B5 := Lib.hid (B4.out.trans (hc.below (fun q hq => by subst hq; exact Nat.le_refl _) B4.out.size)); clear ho hc))
        clear c7
        have c8 : w5.cell? ⟨w.heap.size, 8, none⟩ = some (.int .u64 (uv x.lba)) := (cell_of_row _ _ 8 _ _ _ Xw5.out).trans rfl
        go_upto_region 15 with (go_at_call 80; go_loud (refine (rput23 64 W.heap.size 64 W.heap.size _ 16 8 x.lba _ O5.out (by decide) (by decide) (by decide)).mono ?_; rintro r w6 ⟨rfl, ho, hc⟩; have O6 := Lib.hid ho; have Xw6 := Lib.hid (hc.blk Xw5.out (by have := LT.out; omega)); have B6 := Lib.hid (B5.out.trans (hc.below (fun q hq => by subst hq; exact Nat.le_refl _) B5.out.size)); clear ho hc))
        clear c8
        have c9 : w6.cell? ⟨w.heap.size, 9, none⟩ = some (.int .u32 (uv x.nsid)) := (cell_of_row _ _ 9 _ _ _ Xw6.out).trans rfl
        go_upto_region 16 with (go_at_call 80; go_loud (rw [show uv x.nsid = uv (x.nsid.setWidth 64) from (uw32 x.nsid).symm]; refine (rput23 64 W.heap.size 64 W.heap.size _ 24 4 (x.nsid.setWidth 64) _ O6.out (by decide) (by decide) (by decide)).mono ?_; rintro r w7 ⟨rfl, ho, hc⟩; have O7 := Lib.hid ho; have Xw7 := Lib.hid (hc.blk Xw6.out (by have := LT.out; omega)); have B7 := Lib.hid (B6.out.trans (hc.below (fun q hq => by subst hq; exact Nat.le_refl _) B6.out.size)); clear ho hc))
        clear c9
        have c10 : w7.cell? ⟨w.heap.size, 10, none⟩ = some (.int .u64 (uv x.spec)) := (cell_of_row _ _ 10 _ _ _ Xw7.out).trans rfl
        go_wp2_with (go_at_call 80; go_loud (refine (rput23 64 W.heap.size 64 W.heap.size _ 32 8 x.spec _ O7.out (by decide) (by decide) (by decide)).mono ?_; rintro r w8 ⟨rfl, ho, hc⟩; have O8 := Lib.hid ho; have Xw8 := Lib.hid (hc.blk Xw7.out (by have := LT.out; omega)); have B8 := Lib.hid (B7.out.trans (hc.below (fun q hq => by subst hq; exact Nat.le_refl _) B7.out.size)); clear ho hc))
        clear c10
        go_ret2
        refine ⟨_, rfl, ?_, off_fresh (Nat.le_of_lt LT.out), gr_tr D.out B8.out⟩
        have hO := O8.out
        rw [sum_st_truefalse x.st HK.out HMO.out HNV.out, FIN.out] at hO
        exact hO.bytes
      · skip
        go_enter Tryd.func26, Tryd.ntmps26
        go_upto_region 1 with (fail)
        rw [← HW.out]
        go_upto_region 4 with (refine make_law bytesOk rfl _ _ rfl W.heap.size .i64 .i64 64 64 64 rfl rfl rfl rfl (by omega) (by omega) (Nat.le_refl _) ?_; intro w0 hown hgrow; have O0 := Lib.hid (show OwnN 64 w0 W.heap.size W.heap.size 64 (List.replicate 64 0#8) by have h := hown; rw [by8_made] at h; exact h); have B0 := Lib.hid ((Below.refl W.heap.size W).grown hgrow (Nat.le_refl _) (by intro k hk; cases hk)); have Xw0 := Lib.hid (blk_below X.out B0.out); clear hown hgrow)
        clear c3 hq
        have c0 : w0.cell? ⟨w.heap.size, 0, none⟩ = some (.int .u64 (uv x.count)) := (cell_of_row _ _ 0 _ _ _ Xw0.out).trans rfl
        go_upto_region 5 with (go_at_call 80; go_loud (refine (rput23 64 W.heap.size 64 W.heap.size _ 0 8 x.count _ O0.out (by decide) (by decide) (by decide)).mono ?_; rintro r w1 ⟨rfl, ho, hc⟩; have O1 := Lib.hid ho; have Xw1 := Lib.hid (hc.blk Xw0.out (by have := LT.out; omega)); have B1 := Lib.hid (B0.out.trans (hc.below (fun q hq => by subst hq; exact Nat.le_refl _) B0.out.size)); clear ho hc))
        clear c0
        have c1 : w1.cell? ⟨w.heap.size, 1, none⟩ = some (.int .u16 (uv x.queue)) := (cell_of_row _ _ 1 _ _ _ Xw1.out).trans rfl
        go_upto_region 6 with (go_at_call 80; go_loud (rw [show uv x.queue = uv (x.queue.setWidth 64) from (uw16 x.queue).symm]; refine (rput23 64 W.heap.size 64 W.heap.size _ 8 2 (x.queue.setWidth 64) _ O1.out (by decide) (by decide) (by decide)).mono ?_; rintro r w2 ⟨rfl, ho, hc⟩; have O2 := Lib.hid ho; have Xw2 := Lib.hid (hc.blk Xw1.out (by have := LT.out; omega)); have B2 := Lib.hid (B1.out.trans (hc.below (fun q hq => by subst hq; exact Nat.le_refl _) B1.out.size)); clear ho hc))
        clear c1
        have c2 : w2.cell? ⟨w.heap.size, 2, none⟩ = some (.int .u16 (uv x.id)) := (cell_of_row _ _ 2 _ _ _ Xw2.out).trans rfl
        go_upto_region 7 with (go_at_call 80; go_loud (rw [show uv x.id = uv (x.id.setWidth 64) from (uw16 x.id).symm]; refine (rput23 64 W.heap.size 64 W.heap.size _ 10 2 (x.id.setWidth 64) _ O2.out (by decide) (by decide) (by decide)).mono ?_; rintro r w3 ⟨rfl, ho, hc⟩; have O3 := Lib.hid ho; have Xw3 := Lib.hid (hc.blk Xw2.out (by have := LT.out; omega)); have B3 := Lib.hid (B2.out.trans (hc.below (fun q hq => by subst hq; exact Nat.le_refl _) B2.out.size)); clear ho hc))
        clear c2
        have c3 : w3.cell? ⟨w.heap.size, 3, none⟩ = some (.int .u8 (uv x.st.typ)) := (cell_of_row _ _ 3 _ _ _ Xw3.out).trans rfl
        have c4 : w3.cell? ⟨w.heap.size, 4, none⟩ = some (.int .u8 (uv x.st.code)) := (cell_of_row _ _ 4 _ _ _ Xw3.out).trans rfl
        have c5 : w3.cell? ⟨w.heap.size, 5, none⟩ = some (.bool true) := (cell_of_row _ _ 5 _ _ _ Xw3.out).trans rfl
        have c6 : w3.cell? ⟨w.heap.size, 6, none⟩ = some (.bool true) := (cell_of_row _ _ 6 _ _ _ Xw3.out).trans rfl
        go_upto_region 13 with (go_at_call 80; go_loud (refine (rput23 64 W.heap.size 64 W.heap.size _ 12 2 _ _ O3.out (by decide) (by decide) (by decide)).mono ?_; rintro r w4 ⟨rfl, ho, hc⟩; have O4 := Lib.hid ho; have Xw4 := Lib.hid (hc.blk Xw3.out (by have := LT.out; omega)); have B4 := Lib.hid (B3.out.trans (hc.below (fun q hq => by subst hq; exact Nat.le_refl _) B3.out.size)); clear ho hc))
        clear c3 c4 c5 c6
        have c7 : w4.cell? ⟨w.heap.size, 7, none⟩ = some (.int .u16 (uv x.loc)) := (cell_of_row _ _ 7 _ _ _ Xw4.out).trans rfl
        go_upto_region 14 with (go_at_call 80; go_loud (rw [show uv x.loc = uv (x.loc.setWidth 64) from (uw16 x.loc).symm]; refine (rput23 64 W.heap.size 64 W.heap.size _ 14 2 (x.loc.setWidth 64) _ O4.out (by decide) (by decide) (by decide)).mono ?_; rintro r w5 ⟨rfl, ho, hc⟩; have O5 := Lib.hid ho; have Xw5 := Lib.hid (hc.blk Xw4.out (by have := LT.out; omega)); have B5 := Lib.hid (B4.out.trans (hc.below (fun q hq => by subst hq; exact Nat.le_refl _) B4.out.size)); clear ho hc))
        clear c7
        have c8 : w5.cell? ⟨w.heap.size, 8, none⟩ = some (.int .u64 (uv x.lba)) := (cell_of_row _ _ 8 _ _ _ Xw5.out).trans rfl
        go_upto_region 15 with (go_at_call 80; go_loud (refine (rput23 64 W.heap.size 64 W.heap.size _ 16 8 x.lba _ O5.out (by decide) (by decide) (by decide)).mono ?_; rintro r w6 ⟨rfl, ho, hc⟩; have O6 := Lib.hid ho; have Xw6 := Lib.hid (hc.blk Xw5.out (by have := LT.out; omega)); have B6 := Lib.hid (B5.out.trans (hc.below (fun q hq => by subst hq; exact Nat.le_refl _) B5.out.size)); clear ho hc))
        clear c8
        have c9 : w6.cell? ⟨w.heap.size, 9, none⟩ = some (.int .u32 (uv x.nsid)) := (cell_of_row _ _ 9 _ _ _ Xw6.out).trans rfl
        go_upto_region 16 with (go_at_call 80; go_loud (rw [show uv x.nsid = uv (x.nsid.setWidth 64) from (uw32 x.nsid).symm]; refine (rput23 64 W.heap.size 64 W.heap.size _ 24 4 (x.nsid.setWidth 64) _ O6.out (by decide) (by decide) (by decide)).mono ?_; rintro r w7 ⟨rfl, ho, hc⟩; have O7 := Lib.hid ho; have Xw7 := Lib.hid (hc.blk Xw6.out (by have := LT.out; omega)); have B7 := Lib.hid (B6.out.trans (hc.below (fun q hq => by subst hq; exact Nat.le_refl _) B6.out.size)); clear ho hc))
        clear c9
        have c10 : w7.cell? ⟨w.heap.size, 10, none⟩ = some (.int .u64 (uv x.spec)) := (cell_of_row _ _ 10 _ _ _ Xw7.out).trans rfl
        go_wp2_with (go_at_call 80; go_loud (refine (rput23 64 W.heap.size 64 W.heap.size _ 32 8 x.spec _ O7.out (by decide) (by decide) (by decide)).mono ?_; rintro r w8 ⟨rfl, ho, hc⟩; have O8 := Lib.hid ho; have Xw8 := Lib.hid (hc.blk Xw7.out (by have := LT.out; omega)); have B8 := Lib.hid (B7.out.trans (hc.below (fun q hq => by subst hq; exact Nat.le_refl _) B7.out.size)); clear ho hc))
        clear c10
        go_ret2
        refine ⟨_, rfl, ?_, off_fresh (Nat.le_of_lt LT.out), gr_tr D.out B8.out⟩
        have hO := O8.out
        rw [sum_st_truetrue x.st HK.out HMO.out HNV.out, FIN.out] at hO
        exact hO.bytes
  · rw [decide_eq_false hk] at he hB
    simp only [Bool.false_eq_true, if_false] at he hB
    subst he; subst hB
    have hq : decide (7 < uv x.st.typ) = true := decide_eq_true (by have : uv x.st.typ = x.st.typ.toNat := rfl; omega)
    go_enter Tryd.func26, Tryd.ntmps26
    go_wp2
    go_ret2
    exact ⟨_, rfl, BytesV.nil _, off_nil, gr_alloc _ _⟩
end Go.Proofs.YthnnopjakpjoeaaDoor
