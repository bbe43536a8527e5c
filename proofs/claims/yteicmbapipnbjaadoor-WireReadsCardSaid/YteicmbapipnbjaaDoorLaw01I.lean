/- One call of a reader, as WireReads makes it: kind 1 (fields), and kinds that do nothing. -/
import Derived.Test.YteicmbapipnbjaaDoorLaw01H
namespace Go.Proofs.YteicmbapipnbjaaDoor
open Go.RowKit
set_option linter.unusedVariables false
set_option linter.unusedSimpArgs false
set_option maxHeartbeats 1600000 in
set_option maxRecDepth 100000 in
theorem look1_no (w0 w : World) (p d : Nat) (v bv sv : Value) (l L : List (BitVec 8)) (ks : List Int) (q : Nat) (n er : Int) (h : LookAt w0 w p d v bv sv l L ks q) (he : Wire.readE L ks = er) (h0 : er ≠ 0) :
    Calls Tryd.prog 32 #[.pointer (some ⟨p, 0, none⟩), bv, .int .i64 q, .agg #[.int .i64 1, .int .i64 n, sv]] w (LookOut w0 p d l) := by
  have hn := lookN_any n L
  unfold LookN at hn
  obtain ⟨rd, hbv, hs, hbw, hp, hl, hk, hq, hL⟩ := h; obtain ⟨u, hu, hr⟩ := hbv.cutl (P := Tryd.prog) (T := 23) Tryd.underlying23 bsz q hq; rw [hL] at hu; have U := Lib.hid hu; obtain ⟨ab, cb, rfl, -, -, hcb, -⟩ := id hbv; obtain ⟨au, cu, rfl, -, -, hcu, -⟩ := id hu; have S := Lib.hid hs; obtain ⟨ai, cs, rfl, -, -, hcs, -⟩ := id hs; have HP := Lib.hid hp; have HL := Lib.hid hL; have HQ := Lib.hid hq; have HLL := Lib.hid hl; have HK := Lib.hid hk; have hLl : L.length ≤ 200 := (by rw [← hL, List.length_drop]; omega); have HLL2 := Lib.hid hLl; have R := Lib.hid (rd.below (gr_alloc w (.cells #[.int .i64 1, .int .i64 n, .slice ai ks.length cs] 68))); have D := Lib.hid (hbw.trans ((gr_alloc w (.cells #[.int .i64 1, .int .i64 n, .slice ai ks.length cs] 68)).mono hbw.size)); have HNE := Lib.hid (show ¬ w.heap.size = p by have := rd.lt; omega)
  have g1 : Wire.gotN L ks = 0 := by unfold Wire.gotN; rw [he, if_neg h0]
  have g2 : Wire.gotV L ks = [] := by unfold Wire.gotV; rw [he, if_neg h0]
  have HE := Lib.hid he; have H0 := Lib.hid h0; have G1 := Lib.hid g1; have G2 := Lib.hid g2
  have q1 : (er == 0) = false := by simpa using h0
  have q2 : (er != 0) = true := by simpa using h0
  clear hbv hs rd hp hL hu he h0 g1 g2
  rcases hn with hn | ⟨hn, hn2⟩ | ⟨j, rfl, hj⟩
  · (have d1 : decide (0 ≤ n) = false := decide_eq_false (by omega)); (have d2 : decide (n ≥ 0) = false := decide_eq_false (by omega)); clear hn
    go_enter Tryd.func32, Tryd.ntmps32
    go_wp2_with (first
      | (go_at_call 28; go_loud (refine (All_no p v L q _ ks er _ R.out (S.out.below D.out) (by have := HK.out; omega) HE.out H0.out).mono ?_; rintro r w1 ⟨rfl, hw⟩; have R1 := Lib.hid (R.out.below hw); have D1 := Lib.hid (D.out.trans (hw.mono D.out.size)); have c1 : w1.cell? ⟨w.heap.size, 2, none⟩ = some (.slice ai ks.length cs) := (hw.cell (p := ⟨w.heap.size, 2, none⟩) (by simp)).trans (cell_of_row _ _ _ _ _ _ (heap_alloc_new w _)); clear hw))
      | (go_at_call 61; go_loud (refine (rGetAll_at _ _ L ks er 0 [] _ (U.out.below D1.out) (S.out.below D1.out) (by have := HLL2.out; omega) (by have := HK.out; omega) HE.out G1.out G2.out).mono ?_; rintro r w2 ⟨x2, rfl, hx, hw⟩; have R2 := Lib.hid (R1.out.below hw); have D2 := Lib.hid (D1.out.trans (hw.mono D1.out.size)); have X2 := Lib.hid hx; clear hw hx))
      | (go_at_call 29; go_loud (refine (SameWords_eq _ _ [] _ (WordsV.nil _) X2.out).mono ?_; rintro r w3 ⟨rfl, hw⟩; have R3 := Lib.hid (R2.out.below hw); have D3 := Lib.hid (D2.out.trans (hw.mono D2.out.size)); clear hw)))
    go_ret2
    exact ⟨q, rfl, HQ.out, ⟨v, by rw [HL.out]; exact R3.out⟩, D3.out⟩
  · (have d1 : decide (0 ≤ n) = true := decide_eq_true hn); (have d2 : decide (n ≥ 0) = true := decide_eq_true hn); (have d3 : decide (n ≤ (L.length : Int)) = false := decide_eq_false (by omega)); (have d4 : decide (n > (L.length : Int)) = true := decide_eq_true hn2); clear hn hn2
    go_enter Tryd.func32, Tryd.ntmps32
    go_wp2_with (first
      | (go_at_call 28; go_loud (refine (All_no p v L q _ ks er _ R.out (S.out.below D.out) (by have := HK.out; omega) HE.out H0.out).mono ?_; rintro r w1 ⟨rfl, hw⟩; have R1 := Lib.hid (R.out.below hw); have D1 := Lib.hid (D.out.trans (hw.mono D.out.size)); have c1 : w1.cell? ⟨w.heap.size, 2, none⟩ = some (.slice ai ks.length cs) := (hw.cell (p := ⟨w.heap.size, 2, none⟩) (by simp)).trans (cell_of_row _ _ _ _ _ _ (heap_alloc_new w _)); clear hw))
      | (go_at_call 61; go_loud (refine (rGetAll_at _ _ L ks er 0 [] _ (U.out.below D1.out) (S.out.below D1.out) (by have := HLL2.out; omega) (by have := HK.out; omega) HE.out G1.out G2.out).mono ?_; rintro r w2 ⟨x2, rfl, hx, hw⟩; have R2 := Lib.hid (R1.out.below hw); have D2 := Lib.hid (D1.out.trans (hw.mono D1.out.size)); have X2 := Lib.hid hx; clear hw hx))
      | (go_at_call 29; go_loud (refine (SameWords_eq _ _ [] _ (WordsV.nil _) X2.out).mono ?_; rintro r w3 ⟨rfl, hw⟩; have R3 := Lib.hid (R2.out.below hw); have D3 := Lib.hid (D2.out.trans (hw.mono D2.out.size)); clear hw)))
    go_ret2
    exact ⟨q, rfl, HQ.out, ⟨v, by rw [HL.out]; exact R3.out⟩, D3.out⟩
  · (have d1 : decide (j ≤ L.length) = true := decide_eq_true hj); (have d2 : decide (0 ≤ (j : Int)) = true := decide_eq_true (by omega)); (have HJ := Lib.hid hj); clear hj
    go_enter Tryd.func32, Tryd.ntmps32
    go_wp2_with (first
      | (go_at_call 28; go_loud (refine (All_no p v L q _ ks er _ R.out (S.out.below D.out) (by have := HK.out; omega) HE.out H0.out).mono ?_; rintro r w1 ⟨rfl, hw⟩; have R1 := Lib.hid (R.out.below hw); have D1 := Lib.hid (D.out.trans (hw.mono D.out.size)); have c1 : w1.cell? ⟨w.heap.size, 2, none⟩ = some (.slice ai ks.length cs) := (hw.cell (p := ⟨w.heap.size, 2, none⟩) (by simp)).trans (cell_of_row _ _ _ _ _ _ (heap_alloc_new w _)); clear hw))
      | (go_at_call 61; go_loud (refine (rGetAll_at _ _ L ks er 0 [] _ (U.out.below D1.out) (S.out.below D1.out) (by have := HLL2.out; omega) (by have := HK.out; omega) HE.out G1.out G2.out).mono ?_; rintro r w2 ⟨x2, rfl, hx, hw⟩; have R2 := Lib.hid (R1.out.below hw); have D2 := Lib.hid (D1.out.trans (hw.mono D1.out.size)); have X2 := Lib.hid hx; clear hw hx))
      | (go_at_call 29; go_loud (refine (SameWords_eq _ _ [] _ (WordsV.nil _) X2.out).mono ?_; rintro r w3 ⟨rfl, hw⟩; have R3 := Lib.hid (R2.out.below hw); have D3 := Lib.hid (D2.out.trans (hw.mono D2.out.size)); clear hw)))
    go_ret2
    exact ⟨q, rfl, HQ.out, ⟨v, by rw [HL.out]; exact R3.out⟩, D3.out⟩
set_option maxHeartbeats 1600000 in
set_option maxRecDepth 100000 in
theorem look1_ok (w0 w : World) (p d : Nat) (v bv sv : Value) (l L : List (BitVec 8)) (ks : List Int) (q : Nat) (n : Int) (h : LookAt w0 w p d v bv sv l L ks q) (he : Wire.readE L ks = 0) :
    Calls Tryd.prog 32 #[.pointer (some ⟨p, 0, none⟩), bv, .int .i64 q, .agg #[.int .i64 1, .int .i64 n, sv]] w (LookOut w0 p d l) := by
  have hn := lookN_any n L
  unfold LookN at hn
  obtain ⟨rd, hbv, hs, hbw, hp, hl, hk, hq, hL⟩ := h; obtain ⟨u, hu, hr⟩ := hbv.cutl (P := Tryd.prog) (T := 23) Tryd.underlying23 bsz q hq; rw [hL] at hu; have U := Lib.hid hu; obtain ⟨ab, cb, rfl, -, -, hcb, -⟩ := id hbv; obtain ⟨au, cu, rfl, -, -, hcu, -⟩ := id hu; have S := Lib.hid hs; obtain ⟨ai, cs, rfl, -, -, hcs, -⟩ := id hs; have HP := Lib.hid hp; have HL := Lib.hid hL; have HQ := Lib.hid hq; have HLL := Lib.hid hl; have HK := Lib.hid hk; have hLl : L.length ≤ 200 := (by rw [← hL, List.length_drop]; omega); have HLL2 := Lib.hid hLl; have R := Lib.hid (rd.below (gr_alloc w (.cells #[.int .i64 1, .int .i64 n, .slice ai ks.length cs] 68))); have D := Lib.hid (hbw.trans ((gr_alloc w (.cells #[.int .i64 1, .int .i64 n, .slice ai ks.length cs] 68)).mono hbw.size)); have HNE := Lib.hid (show ¬ w.heap.size = p by have := rd.lt; omega)
  obtain ⟨N, hN⟩ : ∃ N, Wire.readN ks = N := ⟨_, rfl⟩
  obtain ⟨vs, hvs⟩ : ∃ N, Wire.readV L ks = N := ⟨_, rfl⟩
  have g1 : Wire.gotN L ks = N := by unfold Wire.gotN; rw [he, if_pos rfl]; exact hN
  have g2 : Wire.gotV L ks = vs := by unfold Wire.gotV; rw [he, if_pos rfl]; exact hvs
  have hNL := Wire.readN_le L ks he
  rw [hN] at hNL
  have hvl : vs.length = ks.length := by rw [← hvs, Wire.readV_len]
  have ws := wadd_at (q := q) (j := N) (by omega) (by omega)
  have hLj : l.drop (q + N) = Wire.readL L ks := by rw [← hL, Wire.readL_drop, List.drop_drop, hN]
  have hqj : q + N ≤ l.length := by have : L.length = l.length - q := by rw [← hL, List.length_drop]
                                    omega
  have HE := Lib.hid he; have G1 := Lib.hid g1; have G2 := Lib.hid g2; have HN := Lib.hid hN; have HV := Lib.hid hvs; have HVL := Lib.hid hvl; have HLJ := Lib.hid hLj; have HQJ := Lib.hid hqj
  clear hbv hs rd hp hL hu he g1 g2 hN hvs hNL hvl hLj hqj
  rcases hn with hn | ⟨hn, hn2⟩ | ⟨j, rfl, hj⟩
  · (have d1 : decide (0 ≤ n) = false := decide_eq_false (by omega)); (have d2 : decide (n ≥ 0) = false := decide_eq_false (by omega)); clear hn
    go_enter Tryd.func32, Tryd.ntmps32
    go_wp2_with (first
      | (go_at_call 28; go_loud (refine (All_ok p v L q _ ks _ R.out (S.out.below D.out) (by have := HK.out; omega) HE.out).mono ?_; rw [HV.out, HN.out]; rintro r w1 ⟨x1, rfl, ho, ⟨v1, hr⟩, hc⟩; have R1 := Lib.hid hr; have D1 := Lib.hid (look_step D.out hc HP.out); have c1 : w1.cell? ⟨w.heap.size, 2, none⟩ = some (.slice ai ks.length cs) := hc.cell (cell_of_row _ _ _ _ _ _ (heap_alloc_new w _)) HNE.out; have X1 := Lib.hid (WordsV.of_own (l := vs) (by rw [HVL.out]; exact ho)); clear hr hc ho))
      | (go_at_call 61; go_loud (refine (rGetAll_at _ _ L ks 0 N vs _ (U.out.below D1.out) (S.out.below D1.out) (by have := HLL2.out; omega) (by have := HK.out; omega) HE.out G1.out G2.out).mono ?_; rintro r w2 ⟨x2, rfl, hx, hw⟩; have R2 := Lib.hid (R1.out.below hw); have D2 := Lib.hid (D1.out.trans (hw.mono D1.out.size)); have X2 := Lib.hid hx; replace X1 := Lib.hid (X1.out.below hw); clear hw hx))
      | (go_at_call 29; go_loud (refine (SameWords_eq _ _ vs _ X1.out X2.out).mono ?_; rintro r w3 ⟨rfl, hw⟩; have R3 := Lib.hid (R2.out.below hw); have D3 := Lib.hid (D2.out.trans (hw.mono D2.out.size)); clear hw)))
    go_ret2
    exact ⟨q + N, rfl, HQJ.out, ⟨v1, by rw [HLJ.out]; exact R3.out⟩, D3.out⟩
  · (have d1 : decide (0 ≤ n) = true := decide_eq_true hn); (have d2 : decide (n ≥ 0) = true := decide_eq_true hn); (have d3 : decide (n ≤ (L.length : Int)) = false := decide_eq_false (by omega)); (have d4 : decide (n > (L.length : Int)) = true := decide_eq_true hn2); clear hn hn2
    go_enter Tryd.func32, Tryd.ntmps32
    go_wp2_with (first
      | (go_at_call 28; go_loud (refine (All_ok p v L q _ ks _ R.out (S.out.below D.out) (by have := HK.out; omega) HE.out).mono ?_; rw [HV.out, HN.out]; rintro r w1 ⟨x1, rfl, ho, ⟨v1, hr⟩, hc⟩; have R1 := Lib.hid hr; have D1 := Lib.hid (look_step D.out hc HP.out); have c1 : w1.cell? ⟨w.heap.size, 2, none⟩ = some (.slice ai ks.length cs) := hc.cell (cell_of_row _ _ _ _ _ _ (heap_alloc_new w _)) HNE.out; have X1 := Lib.hid (WordsV.of_own (l := vs) (by rw [HVL.out]; exact ho)); clear hr hc ho))
      | (go_at_call 61; go_loud (refine (rGetAll_at _ _ L ks 0 N vs _ (U.out.below D1.out) (S.out.below D1.out) (by have := HLL2.out; omega) (by have := HK.out; omega) HE.out G1.out G2.out).mono ?_; rintro r w2 ⟨x2, rfl, hx, hw⟩; have R2 := Lib.hid (R1.out.below hw); have D2 := Lib.hid (D1.out.trans (hw.mono D1.out.size)); have X2 := Lib.hid hx; replace X1 := Lib.hid (X1.out.below hw); clear hw hx))
      | (go_at_call 29; go_loud (refine (SameWords_eq _ _ vs _ X1.out X2.out).mono ?_; rintro r w3 ⟨rfl, hw⟩; have R3 := Lib.hid (R2.out.below hw); have D3 := Lib.hid (D2.out.trans (hw.mono D2.out.size)); clear hw)))
    go_ret2
    exact ⟨q + N, rfl, HQJ.out, ⟨v1, by rw [HLJ.out]; exact R3.out⟩, D3.out⟩
  · (have d1 : decide (j ≤ L.length) = true := decide_eq_true hj); (have d2 : decide (0 ≤ (j : Int)) = true := decide_eq_true (by omega)); (have HJ := Lib.hid hj); clear hj
    go_enter Tryd.func32, Tryd.ntmps32
    go_wp2_with (first
      | (go_at_call 28; go_loud (refine (All_ok p v L q _ ks _ R.out (S.out.below D.out) (by have := HK.out; omega) HE.out).mono ?_; rw [HV.out, HN.out]; rintro r w1 ⟨x1, rfl, ho, ⟨v1, hr⟩, hc⟩; have R1 := Lib.hid hr; have D1 := Lib.hid (look_step D.out hc HP.out); have c1 : w1.cell? ⟨w.heap.size, 2, none⟩ = some (.slice ai ks.length cs) := hc.cell (cell_of_row _ _ _ _ _ _ (heap_alloc_new w _)) HNE.out; have X1 := Lib.hid (WordsV.of_own (l := vs) (by rw [HVL.out]; exact ho)); clear hr hc ho))
      | (go_at_call 61; go_loud (refine (rGetAll_at _ _ L ks 0 N vs _ (U.out.below D1.out) (S.out.below D1.out) (by have := HLL2.out; omega) (by have := HK.out; omega) HE.out G1.out G2.out).mono ?_; rintro r w2 ⟨x2, rfl, hx, hw⟩; have R2 := Lib.hid (R1.out.below hw); have D2 := Lib.hid (D1.out.trans (hw.mono D1.out.size)); have X2 := Lib.hid hx; replace X1 := Lib.hid (X1.out.below hw); clear hw hx))
      | (go_at_call 29; go_loud (refine (SameWords_eq _ _ vs _ X1.out X2.out).mono ?_; rintro r w3 ⟨rfl, hw⟩; have R3 := Lib.hid (R2.out.below hw); have D3 := Lib.hid (D2.out.trans (hw.mono D2.out.size)); clear hw)))
    go_ret2
    exact ⟨q + N, rfl, HQJ.out, ⟨v1, by rw [HLJ.out]; exact R3.out⟩, D3.out⟩
set_option maxHeartbeats 1600000 in
set_option maxRecDepth 100000 in
theorem look5 (w0 w : World) (p d : Nat) (v bv sv : Value) (l L : List (BitVec 8)) (ks : List Int) (q : Nat) (n kd : Int) (h : LookAt w0 w p d v bv sv l L ks q) (hk : kd < 0 ∨ 4 < kd) :
    Calls Tryd.prog 32 #[.pointer (some ⟨p, 0, none⟩), bv, .int .i64 q, .agg #[.int .i64 kd, .int .i64 n, sv]] w (LookOut w0 p d l) := by
  have hn := lookN_any n L
  unfold LookN at hn
  have k0 : (kd == 0) = false := by rw [beq_eq_false_iff_ne]; omega
  have k1 : (kd == 1) = false := by rw [beq_eq_false_iff_ne]; omega
  have k2 : (kd == 2) = false := by rw [beq_eq_false_iff_ne]; omega
  have k3 : (kd == 3) = false := by rw [beq_eq_false_iff_ne]; omega
  have k4 : (kd == 4) = false := by rw [beq_eq_false_iff_ne]; omega
  clear hk
  obtain ⟨rd, hbv, hs, hbw, hp, hl, hk, hq, hL⟩ := h; obtain ⟨u, hu, hr⟩ := hbv.cutl (P := Tryd.prog) (T := 23) Tryd.underlying23 bsz q hq; rw [hL] at hu; have U := Lib.hid hu; obtain ⟨ab, cb, rfl, -, -, hcb, -⟩ := id hbv; obtain ⟨au, cu, rfl, -, -, hcu, -⟩ := id hu; have S := Lib.hid hs; obtain ⟨ai, cs, rfl, -, -, hcs, -⟩ := id hs; have HP := Lib.hid hp; have HL := Lib.hid hL; have HQ := Lib.hid hq; have HLL := Lib.hid hl; have HK := Lib.hid hk; have hLl : L.length ≤ 200 := (by rw [← hL, List.length_drop]; omega); have HLL2 := Lib.hid hLl; have R := Lib.hid (rd.below (gr_alloc w (.cells #[.int .i64 kd, .int .i64 n, .slice ai ks.length cs] 68))); have D := Lib.hid (hbw.trans ((gr_alloc w (.cells #[.int .i64 kd, .int .i64 n, .slice ai ks.length cs] 68)).mono hbw.size)); have HNE := Lib.hid (show ¬ w.heap.size = p by have := rd.lt; omega)
  clear hbv hs rd hp hL hu
  rcases hn with hn | ⟨hn, hn2⟩ | ⟨j, rfl, hj⟩
  · (have d1 : decide (0 ≤ n) = false := decide_eq_false (by omega)); (have d2 : decide (n ≥ 0) = false := decide_eq_false (by omega)); clear hn
    go_enter Tryd.func32, Tryd.ntmps32
    go_wp2
    go_ret2
    exact ⟨q, rfl, HQ.out, ⟨v, by rw [HL.out]; exact R.out⟩, D.out⟩
  · (have d1 : decide (0 ≤ n) = true := decide_eq_true hn); (have d2 : decide (n ≥ 0) = true := decide_eq_true hn); (have d3 : decide (n ≤ (L.length : Int)) = false := decide_eq_false (by omega)); (have d4 : decide (n > (L.length : Int)) = true := decide_eq_true hn2); clear hn hn2
    go_enter Tryd.func32, Tryd.ntmps32
    go_wp2
    go_ret2
    exact ⟨q, rfl, HQ.out, ⟨v, by rw [HL.out]; exact R.out⟩, D.out⟩
  · (have d1 : decide (j ≤ L.length) = true := decide_eq_true hj); (have d2 : decide (0 ≤ (j : Int)) = true := decide_eq_true (by omega)); (have HJ := Lib.hid hj); clear hj
    go_enter Tryd.func32, Tryd.ntmps32
    go_wp2
    go_ret2
    exact ⟨q, rfl, HQ.out, ⟨v, by rw [HL.out]; exact R.out⟩, D.out⟩
end Go.Proofs.YteicmbapipnbjaaDoor
