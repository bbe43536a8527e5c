/- The law LogpageEntries: the reference's DecodeError, the walk. Printed by genlaw23q.py. -/
import Derived.Test.YthnnopjakpjoeaaDoorLaw23A
import Derived.Test.YthnnopjakpjoeaaDoorLogQ
import Derived.Test.YthnnopjakpjoeaaDoorLogT
import Derived.Test.YthnnopjakpjoeaaDoorSelfEq
namespace Go.Proofs.YthnnopjakpjoeaaDoor
open Go.RowKit Lg
set_option linter.unusedVariables false
set_option linter.unusedSimpArgs false
theorem ub64 {n : Nat} (h : n < 65536) : uv (BitVec.ofNat 64 n) = (n : Int) := by show ((BitVec.ofNat 64 n).toNat : Int) = n; rw [BitVec.toNat_ofNat, Nat.mod_eq_of_lt (by omega)]
theorem rget_lit (bv : Value) (l : List (BitVec 8)) (a n : Nat) (A N : Int) (x : BitVec 64) (w : World) (hA : A = a) (hN : N = n) (hv : BytesV w bv l) (hl : l.length ≤ 5000) (ha : a + n ≤ l.length) (h1 : 1 ≤ n) (h8 : n ≤ 8) (hx : num l a n = x) :
    Calls Tryd.prog 106 #[bv, .int .i64 A, .int .i64 N] w fun e w' => e = .returned (.int .u64 (uv x)) ∧ w = w' := by
  subst hA; subst hN; exact rget23 bv l a n x w hv hl ha h1 h8 hx
theorem er_same (l : List (BitVec 8)) (h : l.length = 64) : erOkB l = erRes l := by
  unfold erOkB
  rw [er_ok l h]
  have : erOk (erRd l) = true := decide_eq_true (stR_typ _)
  rw [this, Bool.true_and]
set_option maxHeartbeats 6400000 in
set_option maxRecDepth 20000 in
theorem rDecEr_at (l : List (BitVec 8)) (bv : Value) (w : World) (y : Er) (e : Int) (hb : BytesV w bv l) (hl : l.length ≤ 5000) (hd : decP 64 erRd erRes erZ l = (y, e)) :
    Calls Tryd.prog 46 #[bv] w fun r w' => r = .returned (.tuple #[.agg (Er.cells y).toArray, .int .i64 e]) ∧ Below w.heap.size w w' := by
  have BV := Lib.hid hb
  obtain ⟨V, hV⟩ : ∃ V, V = w.alloc (.cells #[.int .u64 0, .int .u16 0, .int .u16 0, .int .u8 0, .int .u8 0, .bool false, .bool false, .int .u16 0, .int .u64 0, .int .u32 0, .int .u64 0] 57) := ⟨_, rfl⟩
  have DV := Lib.hid (show Below w.heap.size w V by rw [hV]; exact gr_alloc w _)
  have XV := Lib.hid (show V.heap[w.heap.size]? = some (.cells #[.int .u64 0, .int .u16 0, .int .u16 0, .int .u8 0, .int .u8 0, .bool false, .bool false, .int .u16 0, .int .u64 0, .int .u32 0, .int .u64 0] 57 (0, 0)) by rw [hV]; exact heap_alloc_new w _)
  have HV := Lib.hid hV
  have ZS := Lib.hid (show (Er.cells erZ).toArray = #[.int .u64 0, .int .u16 0, .int .u16 0, .int .u8 0, .int .u8 0, .bool false, .bool false, .int .u16 0, .int .u64 0, .int .u32 0, .int .u64 0] from rfl)
  have VS := Lib.hid (show w.heap.size < V.heap.size by rw [hV, World.size_alloc]; omega)
  clear hV
  unfold decP at hd
  by_cases p1 : l.length < 64
  · rw [if_pos p1] at hd
    cases hd
    rw [ZS.out]
    have HE := Lib.hid (show chkE l 64 = 4 by unfold chkE; rw [if_pos p1])
    clear p1
    go_enter Tryd.func46, Tryd.ntmps46
    go_upto_region 1 with (fail)
    rw [← HV.out]
    go_wp2_with (first
      | (go_at_call 105; go_loud (refine (check23 _ l 64 64 4 _ rfl (BV.out.below DV.out) (HE.out)).mono ?_; rintro r wz ⟨rfl, rfl⟩))
      | (refine wpList_store_row rfl 57 (.tmp 2) (.tmp 11) rfl w.heap.size #[.int .u64 0, .int .u16 0, .int .u16 0, .int .u8 0, .int .u8 0, .bool false, .bool false, .int .u16 0, .int .u64 0, .int .u32 0, .int .u64 0] rfl rfl 57 _ XV.out (by kernel_rfl) rfl (by simp [Value.oneCell']) ?_))
    exact bodyPost_ret (results_row_tmp rfl _ _ w.heap.size 57 #[.int .u64 0, .int .u16 0, .int .u16 0, .int .u8 0, .int .u8 0, .bool false, .bool false, .int .u16 0, .int .u64 0, .int .u32 0, .int .u64 0] (0, 0) _ rfl (setRow_heap _ _ _ _ _ _ XV.out) Tryd.underlying57 rfl (by kernel_rfl)) rfl ⟨rfl, below_setRow DV.out (Nat.le_refl _) _⟩
  rw [if_neg p1] at hd
  by_cases p2 : 64 < l.length
  · rw [if_pos p2] at hd
    cases hd
    rw [ZS.out]
    have HE := Lib.hid (show chkE l 64 = 5 by unfold chkE; rw [if_neg p1, if_pos p2])
    clear p1 p2
    go_enter Tryd.func46, Tryd.ntmps46
    go_upto_region 1 with (fail)
    rw [← HV.out]
    go_wp2_with (first
      | (go_at_call 105; go_loud (refine (check23 _ l 64 64 5 _ rfl (BV.out.below DV.out) (HE.out)).mono ?_; rintro r wz ⟨rfl, rfl⟩))
      | (refine wpList_store_row rfl 57 (.tmp 2) (.tmp 11) rfl w.heap.size #[.int .u64 0, .int .u16 0, .int .u16 0, .int .u8 0, .int .u8 0, .bool false, .bool false, .int .u16 0, .int .u64 0, .int .u32 0, .int .u64 0] rfl rfl 57 _ XV.out (by kernel_rfl) rfl (by simp [Value.oneCell']) ?_))
    exact bodyPost_ret (results_row_tmp rfl _ _ w.heap.size 57 #[.int .u64 0, .int .u16 0, .int .u16 0, .int .u8 0, .int .u8 0, .bool false, .bool false, .int .u16 0, .int .u64 0, .int .u32 0, .int .u64 0] (0, 0) _ rfl (setRow_heap _ _ _ _ _ _ XV.out) Tryd.underlying57 rfl (by kernel_rfl)) rfl ⟨rfl, below_setRow DV.out (Nat.le_refl _) _⟩
  rw [if_neg p2] at hd
  have HL := Lib.hid (show l.length = 64 by omega)
  have HD := Lib.hid hd
  have HL5 := Lib.hid hl
  clear p1 p2 hd hl
  obtain ⟨g, o, cv, rfl⟩ := BV.out.shapeAt (by rw [HL.out]; decide)
  obtain ⟨u28, hu28, hr28, -⟩ := BV.out.cut (P := Tryd.prog) (T := 22) Tryd.underlying22 bszU 28 32 (by omega) (by rw [HL.out]; decide)
  rw [List.drop_take, show (l.drop 28).take (32 - 28) = cut l 28 4 from rfl] at hu28
  obtain ⟨u40, hu40, hr40⟩ := BV.out.cutl (P := Tryd.prog) (T := 22) Tryd.underlying22 bszU 40 (by rw [HL.out]; decide)
  obtain ⟨z1, hz1⟩ : ∃ z, allZ (cut l 28 4) = z := ⟨_, rfl⟩
  obtain ⟨z2, hz2⟩ : ∃ z, allZ (l.drop 40) = z := ⟨_, rfl⟩
  have Z28 := Lib.hid hz1; have Z40 := Lib.hid hz2
  obtain ⟨x0, h0⟩ : ∃ x, num l 0 8 = x := ⟨_, rfl⟩
  obtain ⟨x1, h1⟩ : ∃ x, num l 8 2 = x := ⟨_, rfl⟩
  obtain ⟨x2, h2⟩ : ∃ x, num l 10 2 = x := ⟨_, rfl⟩
  obtain ⟨x3, h3⟩ : ∃ x, num l 12 2 = x := ⟨_, rfl⟩
  obtain ⟨x4, h4⟩ : ∃ x, num l 14 2 = x := ⟨_, rfl⟩
  obtain ⟨x5, h5⟩ : ∃ x, num l 16 8 = x := ⟨_, rfl⟩
  obtain ⟨x6, h6⟩ : ∃ x, num l 24 4 = x := ⟨_, rfl⟩
  obtain ⟨x7, h7⟩ : ∃ x, num l 32 8 = x := ⟨_, rfl⟩
  have X0 := Lib.hid h0
  have X1 := Lib.hid h1
  have X2 := Lib.hid h2
  have X3 := Lib.hid h3
  have X4 := Lib.hid h4
  have X5 := Lib.hid h5
  have X6 := Lib.hid h6
  have X7 := Lib.hid h7
  obtain ⟨S, hS⟩ : ∃ S, x3.toNat = S := ⟨_, rfl⟩
  have hS6 : S < 65536 := by rw [← hS, ← h3]; exact num_lt l 12 2 (by rw [HL.out]; decide) (by decide)
  have SU := Lib.hid (show uv x3 = (S : Int) by rw [← hS]; rfl)
  obtain ⟨CC, hC⟩ : ∃ c, S / 2 % 256 = c := ⟨_, rfl⟩
  obtain ⟨TT, hT⟩ : ∃ c, S / 512 % 8 = c := ⟨_, rfl⟩
  obtain ⟨mo, hmo⟩ : ∃ b, decide (S / 16384 % 2 = 1) = b := ⟨_, rfl⟩
  obtain ⟨nv, hnv⟩ : ∃ b, decide (S / 32768 = 1) = b := ⟨_, rfl⟩
  have HCX := Lib.hid (show (Er.cells (erRd l)).toArray = #[.int .u64 (uv x0), .int .u16 (uv (x1.setWidth 16)), .int .u16 (uv (x2.setWidth 16)), .int .u8 (uv (BitVec.ofNat 8 TT)), .int .u8 (uv (BitVec.ofNat 8 CC)), .bool mo, .bool nv, .int .u16 (uv (x4.setWidth 16)), .int .u64 (uv x5), .int .u32 (uv (x6.setWidth 32)), .int .u64 (uv x7)] by
    unfold erRd; rw [h0, h1, h2, h3, h4, h5, h6, h7]; unfold stR; rw [hS, hC, hT, hmo, hnv]; rfl)
  have HRES := Lib.hid (show erRes l = (decide (S % 2 = 0) && decide (S / 4096 % 4 = 0) && z1 && z2) by
    unfold erRes; rw [h3, hS, hz1, ← cut_all l 40 24 HL.out.symm, hz2])
  obtain ⟨g1, hg1⟩ : ∃ b, decide (S % 2 = 0) = b := ⟨_, rfl⟩
  obtain ⟨g2, hg2⟩ : ∃ b, decide (S / 4096 % 4 = 0) = b := ⟨_, rfl⟩
  rw [hg1, hg2] at HRES
  have hmm : (l.length : Int) ≤ 5000 := by rw [HL.out]; decide
  rw [HL.out] at hr28 hr40 ⊢
  replace hr28 : ∀ w' : World, (Instr.slice 22 (.slice (some ⟨g, o, none⟩) 64 cv) (some (.int .i64 28)) (some (.int .i64 32)) none).run Tryd.prog w' = .ok u28 w' := hr28
  replace hr40 : ∀ w' : World, (Instr.slice 22 (.slice (some ⟨g, o, none⟩) 64 cv) (some (.int .i64 40)) none none).run Tryd.prog w' = .ok u40 w' := hr40
  have BV4 := Lib.hid (show BytesV w (.slice (some ⟨g, o, none⟩) 64 cv) l by have := BV.out; rwa [HL.out] at this)
  have BVV := Lib.hid (BV4.out.below DV.out)
  have U28 := Lib.hid hu28; have U40 := Lib.hid hu40
  have HSS := Lib.hid hS6
  obtain ⟨S2, q1⟩ : ∃ n, S / 2 = n := ⟨_, rfl⟩
  obtain ⟨S3, q2⟩ : ∃ n, S / 512 = n := ⟨_, rfl⟩
  obtain ⟨S4, q3⟩ : ∃ n, S / 16384 = n := ⟨_, rfl⟩
  obtain ⟨S5, q4⟩ : ∃ n, S / 32768 = n := ⟨_, rfl⟩
  obtain ⟨S6, q5⟩ : ∃ n, S / 4096 = n := ⟨_, rfl⟩
  obtain ⟨M1, q6⟩ : ∃ n, S4 % 2 = n := ⟨_, rfl⟩
  obtain ⟨P2, q7⟩ : ∃ n, S % 2 = n := ⟨_, rfl⟩
  obtain ⟨P4, q8⟩ : ∃ n, S6 % 4 = n := ⟨_, rfl⟩
  rw [q1] at hC; rw [q2] at hT; rw [q3, q6] at hmo; rw [q4] at hnv; rw [q7] at hg1; rw [q5, q8] at hg2
  have a1 : ((S : Int)).tdiv 2 = (S2 : Int) := by rw [Int.tdiv_eq_ediv_of_nonneg (by omega)]; omega
  have a2 : ((S2 : Int)).tmod 256 = (CC : Int) := by rw [Int.tmod_eq_emod_of_nonneg (by omega)]; omega
  have a3 : ((S : Int)).tdiv 512 = (S3 : Int) := by rw [Int.tdiv_eq_ediv_of_nonneg (by omega)]; omega
  have a4 : ((S3 : Int)).tmod 8 = (TT : Int) := by rw [Int.tmod_eq_emod_of_nonneg (by omega)]; omega
  have a5 : ((S : Int)).tdiv 16384 = (S4 : Int) := by rw [Int.tdiv_eq_ediv_of_nonneg (by omega)]; omega
  have a6 : ((S4 : Int)).tmod 2 = (M1 : Int) := by rw [Int.tmod_eq_emod_of_nonneg (by omega)]; omega
  have a7 : ((S : Int)).tdiv 32768 = (S5 : Int) := by rw [Int.tdiv_eq_ediv_of_nonneg (by omega)]; omega
  have a8 : ((S : Int)).tmod 2 = (P2 : Int) := by rw [Int.tmod_eq_emod_of_nonneg (by omega)]; omega
  have a9 : ((S : Int)).tdiv 4096 = (S6 : Int) := by rw [Int.tdiv_eq_ediv_of_nonneg (by omega)]; omega
  have aa : ((S6 : Int)).tmod 4 = (P4 : Int) := by rw [Int.tmod_eq_emod_of_nonneg (by omega)]; omega
  have m1 : ((M1 : Int) == 1) = mo := by rw [← hmo, Bool.eq_iff_iff, beq_iff_eq, decide_eq_true_eq]; omega
  have m2 : (M1 == 1) = mo := by rw [← hmo, Bool.eq_iff_iff, beq_iff_eq, decide_eq_true_eq]
  have n1 : ((S5 : Int) == 1) = nv := by rw [← hnv, Bool.eq_iff_iff, beq_iff_eq, decide_eq_true_eq]; omega
  have n2 : (S5 == 1) = nv := by rw [← hnv, Bool.eq_iff_iff, beq_iff_eq, decide_eq_true_eq]
  have k1 : ((P2 : Int) != 0) = !g1 := by rw [← hg1]; by_cases h : P2 = 0 <;> simp [h]
  have k2 : (P2 != 0) = !g1 := by rw [← hg1]; by_cases h : P2 = 0 <;> simp [h]
  have k3 : ((P4 : Int) != 0) = !g2 := by rw [← hg2]; by_cases h : P4 = 0 <;> simp [h]
  have k4 : (P4 != 0) = !g2 := by rw [← hg2]; by_cases h : P4 = 0 <;> simp [h]
  have bS2 : uv (BitVec.ofNat 64 S2) = (S2 : Int) := ub64 (by omega)
  have bS3 : uv (BitVec.ofNat 64 S3) = (S3 : Int) := ub64 (by omega)
  have bS4 : uv (BitVec.ofNat 64 S4) = (S4 : Int) := ub64 (by omega)
  have bS5 : uv (BitVec.ofNat 64 S5) = (S5 : Int) := ub64 (by omega)
  have bS6 : uv (BitVec.ofNat 64 S6) = (S6 : Int) := ub64 (by omega)
  have bCC : uv (BitVec.ofNat 64 CC) = (CC : Int) := ub64 (by omega)
  have bTT : uv (BitVec.ofNat 64 TT) = (TT : Int) := ub64 (by omega)
  have bM1 : uv (BitVec.ofNat 64 M1) = (M1 : Int) := ub64 (by omega)
  have bP2 : uv (BitVec.ofNat 64 P2) = (P2 : Int) := ub64 (by omega)
  have bP4 : uv (BitVec.ofNat 64 P4) = (P4 : Int) := ub64 (by omega)
  have i1 : (S : Int) ≤ 65535 := by omega
  have i2 : (CC : Int) ≤ 255 := by omega
  have i3 : (TT : Int) ≤ 7 := by omega
  clear h0 h1 h2 h3 h4 h5 h6 h7 hS hS6 hC hT hmo hnv hg1 hg2 q1 q2 q3 q4 q5 q6 q7 q8 hz1 hz2 hu28 hu40 hb hmm
  have FMT : erRes l = false → y = erZ ∧ e = 6 := fun h => by
    have h2 := HD.out
    rw [h] at h2
    simp at h2
    exact ⟨h2.1.symm, h2.2.symm⟩
  go_enter Tryd.func46, Tryd.ntmps46
  go_upto_region 1 with (fail)
  rw [← HV.out]
  go_upto_region 5 with (first
    | (go_at_call 105; go_loud (refine (check23 _ l 64 64 0 _ rfl (BV4.out.below DV.out) (by unfold chkE; rw [HL.out]; rfl)).mono ?_; rintro r wz ⟨rfl, rfl⟩))
    | (go_at_call 106; go_loud (refine (rget23 _ l 12 2 x3 _ BVV.out HL5.out (by rw [HL.out]; decide) (by decide) (by decide) X3.out).mono ?_; rw [SU.out]; rintro r wz ⟨rfl, rfl⟩)))
  go_upto_region 6 with (first
    | (go_at_call 106; go_loud ((with_reducible refine (rget_lit _ l 0 8 0 8 x0 _ rfl rfl BVV.out HL5.out (by rw [HL.out]; decide) (by decide) (by decide) X0.out).mono ?_); rintro r wz ⟨rfl, rfl⟩))
    | (go_at_call 106; go_loud ((with_reducible refine (rget_lit _ l 8 2 8 2 x1 _ rfl rfl BVV.out HL5.out (by rw [HL.out]; decide) (by decide) (by decide) X1.out).mono ?_); rintro r wz ⟨rfl, rfl⟩))
    | (go_at_call 106; go_loud ((with_reducible refine (rget_lit _ l 10 2 10 2 x2 _ rfl rfl BVV.out HL5.out (by rw [HL.out]; decide) (by decide) (by decide) X2.out).mono ?_); rintro r wz ⟨rfl, rfl⟩))
    | (go_at_call 106; go_loud ((with_reducible refine (rget_lit _ l 14 2 14 2 x4 _ rfl rfl BVV.out HL5.out (by rw [HL.out]; decide) (by decide) (by decide) X4.out).mono ?_); rintro r wz ⟨rfl, rfl⟩))
    | (go_at_call 106; go_loud ((with_reducible refine (rget_lit _ l 16 8 16 8 x5 _ rfl rfl BVV.out HL5.out (by rw [HL.out]; decide) (by decide) (by decide) X5.out).mono ?_); rintro r wz ⟨rfl, rfl⟩))
    | (go_at_call 106; go_loud ((with_reducible refine (rget_lit _ l 24 4 24 4 x6 _ rfl rfl BVV.out HL5.out (by rw [HL.out]; decide) (by decide) (by decide) X6.out).mono ?_); rintro r wz ⟨rfl, rfl⟩))
    | (go_at_call 106; go_loud ((with_reducible refine (rget_lit _ l 32 8 32 8 x7 _ rfl rfl BVV.out HL5.out (by rw [HL.out]; decide) (by decide) (by decide) X7.out).mono ?_); rintro r wz ⟨rfl, rfl⟩))
    | (refine wpList_store_new rfl 57 (.tmp 6) (.tmp 33) rfl #[.int .u64 (uv x0), .int .u16 (uv (x1.setWidth 16)), .int .u16 (uv (x2.setWidth 16)), .int .u8 0, .int .u8 0, .bool false, .bool false, .int .u16 (uv (x4.setWidth 16)), .int .u64 (uv x5), .int .u32 (uv (x6.setWidth 32)), .int .u64 (uv x7)] 57 _ rfl rfl (by kernel_rfl) rfl (by simp [Value.oneCell']) ?_; intro w4 hh hw; have Y4 := Lib.hid hh; have D4 := Lib.hid hw; have X4 := Lib.hid (blk_below XV.out hw); clear hh hw))
  have TH := Lib.hid (show w4.there V.heap.size 3 4 from fun j hj => by
    refine ⟨?_, frozen_of_row _ _ _ _ _ Y4.out⟩
    rw [cell_of_row _ _ _ _ _ _ Y4.out]
    match j, hj with
    | 0, _ => rfl
    | 1, _ => rfl
    | 2, _ => rfl
    | 3, _ => rfl)
  go_upto_region 7 with (refine wpList_store_mid rfl 27 (.tmp 50) (.tmp 49) rfl V.heap.size 3 #[.int .u8 (uv (BitVec.ofNat 8 TT)), .int .u8 (uv (BitVec.ofNat 8 CC)), .bool mo, .bool nv] rfl rfl TH.out (by kernel_rfl) (by simp [Value.oneCell']) ?_)
  obtain ⟨w6, hw6⟩ : ∃ w6, w6 = w4.setCells V.heap.size 3 [.int .u8 (uv (BitVec.ofNat 8 TT)), .int .u8 (uv (BitVec.ofNat 8 CC)), .bool mo, .bool nv] := ⟨_, rfl⟩
  have c6 : Chg (fun b => b = V.heap.size) w4 w6 := by
    rw [hw6]
    exact (((Chg.setCell (B := fun b => b = V.heap.size) (p := ⟨V.heap.size, 3, none⟩) _ rfl _).trans (Chg.setCell (B := fun b => b = V.heap.size) (p := ⟨V.heap.size, 4, none⟩) _ rfl _)).trans (Chg.setCell (B := fun b => b = V.heap.size) (p := ⟨V.heap.size, 5, none⟩) _ rfl _)).trans (Chg.setCell (B := fun b => b = V.heap.size) (p := ⟨V.heap.size, 6, none⟩) _ rfl _)
  have Y6 := Lib.hid (show w6.heap[V.heap.size]? = some (.cells #[.int .u64 (uv x0), .int .u16 (uv (x1.setWidth 16)), .int .u16 (uv (x2.setWidth 16)), .int .u8 (uv (BitVec.ofNat 8 TT)), .int .u8 (uv (BitVec.ofNat 8 CC)), .bool mo, .bool nv, .int .u16 (uv (x4.setWidth 16)), .int .u64 (uv x5), .int .u32 (uv (x6.setWidth 32)), .int .u64 (uv x7)] 57 (0, 0)) by
    rw [hw6]; exact heap_setCell_same _ _ _ _ _ _ (heap_setCell_same _ _ _ _ _ _ (heap_setCell_same _ _ _ _ _ _ (heap_setCell_same _ _ _ _ _ _ Y4.out))))
  have X6 := Lib.hid (c6.blk X4.out (by have := VS.out; omega))
  have D6 := Lib.hid (show Below V.heap.size V w6 from D4.out.trans (c6.below (fun q hq => by subst hq; exact Nat.le_refl _) D4.out.size))
  have DW := Lib.hid (gr_tr DV.out D6.out)
  rw [← hw6]
  clear hw6 c6 a1 a2 a3 a4 a5 a6 a7 m1 m2 n1 n2
  cases g1
  · obtain ⟨e1, e2⟩ := FMT (by rw [HRES.out]; rfl)
    have k1' : ((P2 : Int) != 0) = true := k1
    have k2' : (P2 != 0) = true := k2
    clear k1 k2
    go_wp2_with (refine wpList_store_row rfl 57 (.tmp 2) (.tmp 72) rfl w.heap.size #[.int .u64 0, .int .u16 0, .int .u16 0, .int .u8 0, .int .u8 0, .bool false, .bool false, .int .u16 0, .int .u64 0, .int .u32 0, .int .u64 0] rfl rfl 57 _ X6.out (by kernel_rfl) rfl (by simp [Value.oneCell']) ?_)
    exact bodyPost_ret (results_row_tmp rfl _ _ w.heap.size 57 #[.int .u64 0, .int .u16 0, .int .u16 0, .int .u8 0, .int .u8 0, .bool false, .bool false, .int .u16 0, .int .u64 0, .int .u32 0, .int .u64 0] (0, 0) _ rfl (setRow_heap _ _ _ _ _ _ X6.out) Tryd.underlying57 rfl (by kernel_rfl)) rfl ⟨by rw [e1, e2, ZS.out]; rfl, below_setRow DW.out (Nat.le_refl _) _⟩
  have k1' : ((P2 : Int) != 0) = false := k1
  have k2' : (P2 != 0) = false := k2
  clear k1 k2
  cases g2
  · obtain ⟨e1, e2⟩ := FMT (by rw [HRES.out]; rfl)
    have k3' : ((P4 : Int) != 0) = true := k3
    have k4' : (P4 != 0) = true := k4
    clear k3 k4
    go_wp2_with (refine wpList_store_row rfl 57 (.tmp 2) (.tmp 72) rfl w.heap.size #[.int .u64 0, .int .u16 0, .int .u16 0, .int .u8 0, .int .u8 0, .bool false, .bool false, .int .u16 0, .int .u64 0, .int .u32 0, .int .u64 0] rfl rfl 57 _ X6.out (by kernel_rfl) rfl (by simp [Value.oneCell']) ?_)
    exact bodyPost_ret (results_row_tmp rfl _ _ w.heap.size 57 #[.int .u64 0, .int .u16 0, .int .u16 0, .int .u8 0, .int .u8 0, .bool false, .bool false, .int .u16 0, .int .u64 0, .int .u32 0, .int .u64 0] (0, 0) _ rfl (setRow_heap _ _ _ _ _ _ X6.out) Tryd.underlying57 rfl (by kernel_rfl)) rfl ⟨by rw [e1, e2, ZS.out]; rfl, below_setRow DW.out (Nat.le_refl _) _⟩
  have k3' : ((P4 : Int) != 0) = false := k3
  have k4' : (P4 != 0) = false := k4
  clear k3 k4
  have U28b := Lib.hid ((U28.out.below DV.out).below D6.out)
  have U40b := Lib.hid ((U40.out.below DV.out).below D6.out)
  cases z1
  · obtain ⟨e1, e2⟩ := FMT (by rw [HRES.out]; rfl)
    go_wp2_with (first
      | (go_at_call 107; go_loud ((with_reducible refine (rZeros_at u28 (cut l 28 4) false w6 U28b.out Z28.out).mono ?_); rintro r wz ⟨rfl, rfl⟩))
      | (refine wpList_store_row rfl 57 (.tmp 2) (.tmp 72) rfl w.heap.size #[.int .u64 0, .int .u16 0, .int .u16 0, .int .u8 0, .int .u8 0, .bool false, .bool false, .int .u16 0, .int .u64 0, .int .u32 0, .int .u64 0] rfl rfl 57 _ X6.out (by kernel_rfl) rfl (by simp [Value.oneCell']) ?_))
    exact bodyPost_ret (results_row_tmp rfl _ _ w.heap.size 57 #[.int .u64 0, .int .u16 0, .int .u16 0, .int .u8 0, .int .u8 0, .bool false, .bool false, .int .u16 0, .int .u64 0, .int .u32 0, .int .u64 0] (0, 0) _ rfl (setRow_heap _ _ _ _ _ _ X6.out) Tryd.underlying57 rfl (by kernel_rfl)) rfl ⟨by rw [e1, e2, ZS.out]; rfl, below_setRow DW.out (Nat.le_refl _) _⟩
  cases z2
  · obtain ⟨e1, e2⟩ := FMT (by rw [HRES.out]; rfl)
    go_wp2_with (first
      | (go_at_call 107; go_loud ((with_reducible refine (rZeros_at u28 (cut l 28 4) true w6 U28b.out Z28.out).mono ?_); rintro r wz ⟨rfl, rfl⟩))
      | (go_at_call 107; go_loud ((with_reducible refine (rZeros_at u40 (l.drop 40) false _ U40b.out Z40.out).mono ?_); rintro r wz ⟨rfl, rfl⟩))
      | (refine wpList_store_row rfl 57 (.tmp 2) (.tmp 72) rfl w.heap.size #[.int .u64 0, .int .u16 0, .int .u16 0, .int .u8 0, .int .u8 0, .bool false, .bool false, .int .u16 0, .int .u64 0, .int .u32 0, .int .u64 0] rfl rfl 57 _ X6.out (by kernel_rfl) rfl (by simp [Value.oneCell']) ?_))
    exact bodyPost_ret (results_row_tmp rfl _ _ w.heap.size 57 #[.int .u64 0, .int .u16 0, .int .u16 0, .int .u8 0, .int .u8 0, .bool false, .bool false, .int .u16 0, .int .u64 0, .int .u32 0, .int .u64 0] (0, 0) _ rfl (setRow_heap _ _ _ _ _ _ X6.out) Tryd.underlying57 rfl (by kernel_rfl)) rfl ⟨by rw [e1, e2, ZS.out]; rfl, below_setRow DW.out (Nat.le_refl _) _⟩
  obtain ⟨e1, e2⟩ : y = erRd l ∧ e = 0 := by
    have h2 := HD.out
    rw [HRES.out] at h2
    simp at h2
    exact ⟨h2.1.symm, h2.2.symm⟩
  go_wp2_with (first
    | (go_at_call 107; go_loud ((with_reducible refine (rZeros_at u28 (cut l 28 4) true w6 U28b.out Z28.out).mono ?_); rintro r wz ⟨rfl, rfl⟩))
    | (go_at_call 107; go_loud ((with_reducible refine (rZeros_at u40 (l.drop 40) true _ U40b.out Z40.out).mono ?_); rintro r wz ⟨rfl, rfl⟩))
    | (refine wpList_load_row rfl 57 (.tmp 6) rfl V.heap.size rfl 57 #[.int .u64 (uv x0), .int .u16 (uv (x1.setWidth 16)), .int .u16 (uv (x2.setWidth 16)), .int .u8 (uv (BitVec.ofNat 8 TT)), .int .u8 (uv (BitVec.ofNat 8 CC)), .bool mo, .bool nv, .int .u16 (uv (x4.setWidth 16)), .int .u64 (uv x5), .int .u32 (uv (x6.setWidth 32)), .int .u64 (uv x7)] (0, 0) _ Y6.out Tryd.underlying57 rfl (by kernel_rfl) ?_)
    | (refine wpList_store_row rfl 57 (.tmp 2) (.tmp 73) rfl w.heap.size #[.int .u64 (uv x0), .int .u16 (uv (x1.setWidth 16)), .int .u16 (uv (x2.setWidth 16)), .int .u8 (uv (BitVec.ofNat 8 TT)), .int .u8 (uv (BitVec.ofNat 8 CC)), .bool mo, .bool nv, .int .u16 (uv (x4.setWidth 16)), .int .u64 (uv x5), .int .u32 (uv (x6.setWidth 32)), .int .u64 (uv x7)] rfl rfl 57 _ X6.out (by kernel_rfl) rfl (by simp [Value.oneCell']) ?_))
  exact bodyPost_ret (results_row_tmp rfl _ _ w.heap.size 57 #[.int .u64 (uv x0), .int .u16 (uv (x1.setWidth 16)), .int .u16 (uv (x2.setWidth 16)), .int .u8 (uv (BitVec.ofNat 8 TT)), .int .u8 (uv (BitVec.ofNat 8 CC)), .bool mo, .bool nv, .int .u16 (uv (x4.setWidth 16)), .int .u64 (uv x5), .int .u32 (uv (x6.setWidth 32)), .int .u64 (uv x7)] (0, 0) _ rfl (setRow_heap _ _ _ _ _ _ X6.out) Tryd.underlying57 rfl (by kernel_rfl)) rfl ⟨by rw [e1, e2, HCX.out]; rfl, below_setRow DW.out (Nat.le_refl _) _⟩
theorem er_eql (x : Er) (w : World) : (binOp .eql 57 (.agg (Er.cells x).toArray) (.agg (Er.cells x).toArray)).run Tryd.prog w = .ok (.bool true) w := by
  refine eql_self (fun w => self_struct (by kernel_rfl) (by kernel_rfl) ?_ w) w
  rw [show Tryd.prog.fieldsOf 57 = _ from by unfold Program.fieldsOf; rw [Tryd.underlying57]]
  simp only [List.forall_mem_cons, List.not_mem_nil, false_implies, implies_true, and_true]
  refine ⟨?_, ?_, ?_, ?_, ?_, ?_, ?_, ?_⟩
  · exact selfAt_int (d := 9998) (k := .u64) (a := uv x.count) Tryd.underlying23 rfl
  · exact selfAt_int (d := 9998) (k := .u16) (a := uv x.queue) Tryd.underlying36 rfl
  · exact selfAt_int (d := 9998) (k := .u16) (a := uv x.id) Tryd.underlying36 rfl
  · refine selfAt_struct (d := 9998) (m := 4) (by kernel_rfl) (by kernel_rfl) (by kernel_rfl) (by kernel_rfl) ?_
    rw [show Tryd.prog.fieldsOf 27 = _ from by unfold Program.fieldsOf; rw [Tryd.underlying27]]
    simp only [List.forall_mem_cons, List.not_mem_nil, false_implies, implies_true, and_true]
    refine ⟨?_, ?_, ?_, ?_⟩
    · exact selfAt_int (d := 9997) (k := .u8) (a := uv x.st.typ) Tryd.underlying5 rfl
    · exact selfAt_int (d := 9997) (k := .u8) (a := uv x.st.code) Tryd.underlying5 rfl
    · exact selfAt_bool (d := 9997) (a := x.st.more) Tryd.underlying4 rfl
    · exact selfAt_bool (d := 9997) (a := x.st.never) Tryd.underlying4 rfl
  · exact selfAt_int (d := 9998) (k := .u16) (a := uv x.loc) Tryd.underlying36 rfl
  · exact selfAt_int (d := 9998) (k := .u64) (a := uv x.lba) Tryd.underlying23 rfl
  · exact selfAt_int (d := 9998) (k := .u32) (a := uv x.nsid) Tryd.underlying24 rfl
  · exact selfAt_int (d := 9998) (k := .u64) (a := uv x.spec) Tryd.underlying23 rfl
set_option maxHeartbeats 6400000 in
set_option maxRecDepth 20000 in
theorem lawEntries (x : Er) (v : Value) (l : List (BitVec 8)) (w : World) (hv : BytesV w v l) (ht : Lib.TabIs Tryd.prog w "strings.asciiSpace" .u8 Lib.asciiSpaceTab) :
    Calls Tryd.prog 8 #[.agg (Er.cells x).toArray, v] w fun e w' => e = .returned (.bool true) ∧ Below w.heap.size w w' := by
  obtain ⟨e1, he1⟩ : ∃ e, erE x = e := ⟨_, rfl⟩
  obtain ⟨A, hA⟩ : ∃ A, erR x = A := ⟨_, rfl⟩
  obtain ⟨y, e2, hd⟩ : ∃ y e, decP 64 erRd erOkB erZ l = (y, e) := ⟨_, _, rfl⟩
  have hd2 : decP 64 erRd erRes erZ l = (y, e2) := by
    rw [← hd]; exact (decP_congr 64 erRd erRd erOkB erRes erZ l (fun h => ⟨rfl, er_same l h⟩)).symm
  have ENC := fun w => EncEr_at x e1 A w he1 hA
  have ENR := fun w => rEncEr_at x e1 A w he1 hA
  obtain ⟨cx, hcx⟩ : ∃ c, (Er.cells x).toArray = c := ⟨_, rfl⟩
  rw [hcx] at ENC ENR ⊢
  have SX := Lib.hid (show cx.size = 11 by rw [← hcx]; rfl)
  obtain ⟨cy, hcy⟩ : ∃ c, (Er.cells y).toArray = c := ⟨_, rfl⟩
  have HCY := Lib.hid hcy
  have SY := Lib.hid (show cy.size = 11 by rw [← hcy]; rfl)
  have ONY := Lib.hid (show cy.all (·.oneCell') = true by rw [← hcy]; simp [Er.cells, St.cells, Value.oneCell'])
  have QY := Lib.hid (show ∀ w, (binOp .eql 57 (.agg cy) (.agg cy)).run Tryd.prog w = .ok (.bool true) w by rw [← hcy]; exact er_eql y)
  have HD := Lib.hid hd; have HD2 := Lib.hid hd2
  obtain ⟨W, hW⟩ : ∃ W, W = w.alloc (.cells cx 57) := ⟨_, rfl⟩
  have D0 := Lib.hid (show Below w.heap.size w W by rw [hW]; exact gr_alloc w _)
  have X := Lib.hid (show W.heap[w.heap.size]? = some (.cells cx 57 (0, 0)) by rw [hW]; exact heap_alloc_new w _)
  have V := Lib.hid (hv.below D0.out)
  have TAB := Lib.hid (tab_below ht D0.out)
  have HW := Lib.hid hW
  obtain ⟨av, cv, rfl, h0, h1, h2, h3⟩ := hv
  have hm : (l.length : Int) ≤ 9223372036854775807 := by omega
  clear h0 h1 h2 h3 ht hW hcx hcy hd hd2 he1 hA
  have ENCH := Lib.hid ENC; have ENRH := Lib.hid ENR
  clear ENC ENR
  by_cases c1 : 200 < l.length
  · have d1 : decide ((200 : Int) < l.length) = true := decide_eq_true (by omega)
    have d2 : decide (200 < l.length) = true := decide_eq_true c1
    clear c1
    go_enter Tryd.func8, Tryd.ntmps8
    go_upto_region 1 with (fail)
    first
      | rw [← HW.out]
      | (show Code.wp _ _ _ _ (w.alloc (.cells cx 57)); rw [← HW.out])
    go_wp2_with (go_at_call 13; go_loud (refine (known_any _ TAB.out).mono ?_; rintro r w1 ⟨rfl, hw⟩; have D := Lib.hid (gr_tr D0.out hw); clear hw))
    go_ret
    exact ⟨rfl, D.out⟩
  have d1 : decide ((200 : Int) < l.length) = false := decide_eq_false (by omega)
  have d2 : decide (200 < l.length) = false := decide_eq_false c1
  have HL := Lib.hid (show l.length ≤ 200 by omega)
  have h11 : (A == A) = true := beq_self_eq_true A
  have hee : (e1 == e1) = true := beq_self_eq_true e1
  have hff : (e2 == e2) = true := beq_self_eq_true e2
  clear c1
  go_enter Tryd.func8, Tryd.ntmps8
  go_upto_region 1 with (fail)
  first
    | rw [← HW.out]
    | (show Code.wp _ _ _ _ (w.alloc (.cells cx 57)); rw [← HW.out])
  go_upto_region 4 with (first
    | (refine wpList_load_row rfl 57 (.tmp 2) rfl w.heap.size rfl 57 cx (0, 0) _ X.out Tryd.underlying57 rfl (by rw [SX.out]; kernel_rfl) ?_)
    | (go_at_call 44; go_loud (refine (ENCH.out _).mono ?_; rintro r w1 ⟨u1, rfl, ho, hw⟩; have U1 := Lib.hid (BytesV.of_own ho); have D1 := Lib.hid hw; have X1 := Lib.hid (blk_below X.out hw); clear ho hw)))
  go_upto_region 5 with (first
    | (refine wpList_load_row rfl 57 (.tmp 2) rfl w.heap.size rfl 57 cx (0, 0) _ X1.out Tryd.underlying57 rfl (by rw [SX.out]; kernel_rfl) ?_)
    | (go_at_call 26; go_loud (refine (ENRH.out _).mono ?_; rintro r w2 ⟨u2, rfl, hu, hw⟩; have U2 := Lib.hid hu; replace U1 := Lib.hid (U1.out.below hw); have D2 := Lib.hid (gr_tr D1.out hw); clear hu hw)))
  go_upto_region 6 with (first
    | (go_at_call 45; go_loud (refine (Decode_Er l _ _ y e2 (V.out.below D2.out) (by have := HL.out; omega) HD.out).mono ?_; rw [HCY.out]; rintro r w3 ⟨rfl, hw⟩; replace U1 := Lib.hid (U1.out.below hw); replace U2 := Lib.hid (U2.out.below hw); have D3 := Lib.hid (gr_tr D2.out hw); clear hw))
    | (refine wpList_store_new rfl 57 (.tmp 9) (.tmp 30) rfl cy 57 _ rfl rfl (by rw [SY.out]; kernel_rfl) (by rw [SY.out]; rfl) ONY.out ?_; intro w4 hh hw; have Y4 := Lib.hid hh; replace U1 := Lib.hid (U1.out.below hw); replace U2 := Lib.hid (U2.out.below hw); have D4 := Lib.hid (gr_tr D3.out hw); clear hh hw))
  go_upto_region 7 with (first
    | (go_at_call 46; go_loud (refine (rDecEr_at l _ _ y e2 (V.out.below D4.out) (by have := HL.out; omega) HD2.out).mono ?_; rw [HCY.out]; rintro r w5 ⟨rfl, hw⟩; replace U1 := Lib.hid (U1.out.below hw); replace U2 := Lib.hid (U2.out.below hw); have Y5 := Lib.hid (blk_below Y4.out hw); have D5 := Lib.hid (gr_tr D4.out hw); clear hw))
    | (refine wpList_store_new rfl 57 (.tmp 11) (.tmp 35) rfl cy 57 _ rfl rfl (by rw [SY.out]; kernel_rfl) (by rw [SY.out]; rfl) ONY.out ?_; intro w6 hh hw; have Z6 := Lib.hid hh; have Y6 := Lib.hid (blk_below Y5.out hw); replace U1 := Lib.hid (U1.out.below hw); replace U2 := Lib.hid (U2.out.below hw); have D6 := Lib.hid (gr_tr D5.out hw); clear hh hw))
  have q := QY.out
  go_wp2_with (first
    | (go_at_call 17; go_loud (refine (same_at _ _ A A true _ U1.out U2.out h11).mono ?_; rintro r w7 ⟨rfl, hw7⟩; subst hw7))
    | (refine wpList_unguard (by rfl) (wpList_load_row rfl 57 (.tmp 9) rfl w3.heap.size rfl 57 cy (0, 0) _ Y6.out Tryd.underlying57 rfl (by rw [SY.out]; kernel_rfl) ?_))
    | (refine wpList_unguard (by rfl) (wpList_load_row rfl 57 (.tmp 11) rfl w5.heap.size rfl 57 cy (0, 0) _ Z6.out Tryd.underlying57 rfl (by rw [SY.out]; kernel_rfl) ?_))
    | (go_at_call 13; go_loud (refine (known_any _ (tab_below TAB.out D6.out)).mono ?_; rintro r w8 ⟨rfl, hw⟩; have D8 := Lib.hid (gr_tr D6.out hw); clear hw)))
  go_ret
  exact ⟨rfl, gr_tr D0.out D8.out⟩
end Go.Proofs.YthnnopjakpjoeaaDoor
