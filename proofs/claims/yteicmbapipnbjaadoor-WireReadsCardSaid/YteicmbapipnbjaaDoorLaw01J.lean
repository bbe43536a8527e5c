/- One call of a reader, as WireReads makes it: kinds 2, 3, 4 (bytes, zeros, a skip). -/
import Derived.Test.YteicmbapipnbjaaDoorLaw01H
namespace Go.Proofs.YteicmbapipnbjaaDoor
open Go.RowKit
set_option linter.unusedVariables false
set_option linter.unusedSimpArgs false
theorem bytes_nil_shape {w : World} {u : Value} (h : BytesV w u []) : ∃ a c, u = .slice a 0 c := by
  obtain ⟨a, c, rfl, _⟩ := h; exact ⟨a, c, rfl⟩
theorem same_quiet (v u : Value) (l : List (BitVec 8)) (w : World) (n : Nat) (hv : BytesV (w.drewN n) v l) (hu : BytesV (w.drewN n) u l) :
    Calls Tryd.prog 13 #[v, u] (w.drewN n) fun e w' => e = .returned (.bool true) ∧ ∃ m, w' = w.drewN m :=
  Calls.quiet_of_same ((same_at v u l l true _ hv hu (by simp)).mono fun _ _ h => ⟨h.1, h.2.symm⟩)
theorem cut_neg {n : Int} {L : List (BitVec 8)} (h : n < 0) : Wire.cutE L n = 2 := by unfold Wire.cutE; rw [if_pos h]
theorem cut_big {n : Int} {L : List (BitVec 8)} (h : 0 ≤ n) (h2 : (L.length : Int) < n) : Wire.cutE L n = 4 := by unfold Wire.cutE; rw [if_neg (by omega), if_pos h2]
theorem zeros_neg {n : Int} {L : List (BitVec 8)} (h : n < 0) : Wire.zerosE L n = 2 := by unfold Wire.zerosE; rw [if_pos h]
theorem zeros_big {n : Int} {L : List (BitVec 8)} (h : 0 ≤ n) (h2 : (L.length : Int) < n) : Wire.zerosE L n = 4 := by unfold Wire.zerosE; rw [if_neg (by omega), if_pos h2]
set_option maxHeartbeats 1600000 in
set_option maxRecDepth 100000 in
theorem look2 (w0 w : World) (p d : Nat) (v bv sv : Value) (l L : List (BitVec 8)) (ks : List Int) (q : Nat) (n : Int) (h : LookAt w0 w p d v bv sv l L ks q) :
    Calls Tryd.prog 32 #[.pointer (some ⟨p, 0, none⟩), bv, .int .i64 q, .agg #[.int .i64 2, .int .i64 n, sv]] w (LookOut w0 p d l) := by
  have hn := lookN_any n L
  unfold LookN at hn
  obtain ⟨rd, hbv, hs, hbw, hp, hl, hk, hq, hL⟩ := h; obtain ⟨u, hu, hr⟩ := hbv.cutl (P := Tryd.prog) (T := 23) Tryd.underlying23 bsz q hq; rw [hL] at hu; have U := Lib.hid hu; obtain ⟨ab, cb, rfl, -, -, hcb, -⟩ := id hbv; obtain ⟨au, cu, rfl, -, -, hcu, -⟩ := id hu; have S := Lib.hid hs; obtain ⟨ai, cs, rfl, -, -, hcs, -⟩ := id hs; have HP := Lib.hid hp; have HL := Lib.hid hL; have HQ := Lib.hid hq; have HLL := Lib.hid hl; have HK := Lib.hid hk; have hLl : L.length ≤ 200 := (by rw [← hL, List.length_drop]; omega); have HLL2 := Lib.hid hLl; have R := Lib.hid (rd.below (gr_alloc w (.cells #[.int .i64 2, .int .i64 n, .slice ai ks.length cs] 68))); have D := Lib.hid (hbw.trans ((gr_alloc w (.cells #[.int .i64 2, .int .i64 n, .slice ai ks.length cs] 68)).mono hbw.size)); have HNE := Lib.hid (show ¬ w.heap.size = p by have := rd.lt; omega)
  clear hbv hs rd hp hL hu
  rcases hn with hn | ⟨hn, hn2⟩ | ⟨j, rfl, hj⟩
  · have HE := Lib.hid (show Wire.cutE L n = 2 from cut_neg hn)
    (have d1 : decide (0 ≤ n) = false := decide_eq_false (by omega)); (have d2 : decide (n ≥ 0) = false := decide_eq_false (by omega)); clear hn
    go_enter Tryd.func32, Tryd.ntmps32
    go_wp2_with (go_at_call 42; go_loud (refine (Take_no _ p v L q n 2 _ R.out HE.out (by decide)).mono ?_; rintro r w1 ⟨u1, rfl, hu, hw⟩; have R1 := Lib.hid (R.out.below hw); have D1 := Lib.hid (D.out.trans (hw.mono D.out.size)); obtain ⟨a1, k1, rfl⟩ := bytes_nil_shape hu; clear hu hw))
    go_ret2
    exact ⟨q, rfl, HQ.out, ⟨v, by rw [HL.out]; exact R1.out⟩, D1.out⟩
  · have HE := Lib.hid (show Wire.cutE L n = 4 from cut_big hn hn2)
    (have d1 : decide (0 ≤ n) = true := decide_eq_true hn); (have d2 : decide (n ≥ 0) = true := decide_eq_true hn); (have d3 : decide (n ≤ (L.length : Int)) = false := decide_eq_false (by omega)); (have d4 : decide (n > (L.length : Int)) = true := decide_eq_true hn2); clear hn hn2
    go_enter Tryd.func32, Tryd.ntmps32
    go_wp2_with (go_at_call 42; go_loud (refine (Take_no _ p v L q n 4 _ R.out HE.out (by decide)).mono ?_; rintro r w1 ⟨u1, rfl, hu, hw⟩; have R1 := Lib.hid (R.out.below hw); have D1 := Lib.hid (D.out.trans (hw.mono D.out.size)); obtain ⟨a1, k1, rfl⟩ := bytes_nil_shape hu; clear hu hw))
    go_ret2
    exact ⟨q, rfl, HQ.out, ⟨v, by rw [HL.out]; exact R1.out⟩, D1.out⟩
  · have ws := wadd_at (q := q) (j := j) (by have := HQ.out; have := HLL.out; omega) (by have := HLL2.out; omega)
    have HLJ := Lib.hid (show l.drop (q + j) = L.drop j by rw [← HL.out, List.drop_drop])
    have HQJ := Lib.hid (show q + j ≤ l.length by
      have : L.length = l.length - q := by rw [← HL.out, List.length_drop]
      have := HQ.out; omega)
    obtain ⟨u2, hu2, -, hr2⟩ := U.out.cut (P := Tryd.prog) (T := 23) Tryd.underlying23 bsz 0 j (by omega) hj
    have hr2 : ∀ w', (Instr.slice 23 (.slice au L.length cu) none (some (.int .i64 (j : Int))) none).run Tryd.prog w' = .ok u2 w' := hr2 rfl
    rw [List.drop_zero] at hu2
    have U2 := Lib.hid hu2; clear hu2
    obtain ⟨a2, n2, k2, rfl⟩ := bytes_shape U2.out
    (have d1 : decide (j ≤ L.length) = true := decide_eq_true hj); (have d2 : decide (0 ≤ (j : Int)) = true := decide_eq_true (by omega)); (have HJ := Lib.hid hj); clear hj
    go_enter Tryd.func32, Tryd.ntmps32
    go_upto_region 19 with (go_at_call 42; go_loud (refine (Take_ok _ p v L q j _ R.out HJ.out (by have := HLL2.out; omega)).mono ?_; rintro r w1 ⟨u1, rfl, ho, ⟨v1, hr⟩, hc⟩; have R1 := Lib.hid hr; have D1 := Lib.hid (look_step D.out hc HP.out); have c1 : w1.cell? ⟨w.heap.size, 1, none⟩ = some (.int .i64 (j : Int)) := hc.cell (cell_of_row _ _ _ _ _ _ (heap_alloc_new w _)) HNE.out; have X1 := Lib.hid (BytesV.of_own (l := L.take j) (by rw [show (L.take j).length = j by rw [List.length_take]; have := HJ.out; omega]; exact ho)); clear hr hc ho))
    obtain ⟨a1, n1, k1, rfl⟩ := bytes_shape X1.out
    go_quiet ((go_at_call 13; exact same_quiet _ _ (L.take j) _ _ (X1.out.below (gr_drewN _ _)) ((U2.out.below D1.out).below (gr_drewN _ _))))
    go_wp2
    go_ret2
    exact ⟨q + j, rfl, HQJ.out, ⟨v1, by rw [HLJ.out]; exact R1.out.below (gr_drewN _ _)⟩, D1.out.trans ((gr_drewN _ _).mono D1.out.size)⟩
set_option maxHeartbeats 1600000 in
set_option maxRecDepth 100000 in
theorem look3 (w0 w : World) (p d : Nat) (v bv sv : Value) (l L : List (BitVec 8)) (ks : List Int) (q : Nat) (n : Int) (h : LookAt w0 w p d v bv sv l L ks q) :
    Calls Tryd.prog 32 #[.pointer (some ⟨p, 0, none⟩), bv, .int .i64 q, .agg #[.int .i64 3, .int .i64 n, sv]] w (LookOut w0 p d l) := by
  have hn := lookN_any n L
  unfold LookN at hn
  obtain ⟨rd, hbv, hs, hbw, hp, hl, hk, hq, hL⟩ := h; obtain ⟨u, hu, hr⟩ := hbv.cutl (P := Tryd.prog) (T := 23) Tryd.underlying23 bsz q hq; rw [hL] at hu; have U := Lib.hid hu; obtain ⟨ab, cb, rfl, -, -, hcb, -⟩ := id hbv; obtain ⟨au, cu, rfl, -, -, hcu, -⟩ := id hu; have S := Lib.hid hs; obtain ⟨ai, cs, rfl, -, -, hcs, -⟩ := id hs; have HP := Lib.hid hp; have HL := Lib.hid hL; have HQ := Lib.hid hq; have HLL := Lib.hid hl; have HK := Lib.hid hk; have hLl : L.length ≤ 200 := (by rw [← hL, List.length_drop]; omega); have HLL2 := Lib.hid hLl; have R := Lib.hid (rd.below (gr_alloc w (.cells #[.int .i64 3, .int .i64 n, .slice ai ks.length cs] 68))); have D := Lib.hid (hbw.trans ((gr_alloc w (.cells #[.int .i64 3, .int .i64 n, .slice ai ks.length cs] 68)).mono hbw.size)); have HNE := Lib.hid (show ¬ w.heap.size = p by have := rd.lt; omega)
  clear hbv hs rd hp hL hu
  rcases hn with hn | ⟨hn, hn2⟩ | ⟨j, rfl, hj⟩
  · have HE := Lib.hid (show Wire.zerosE L n = 2 from zeros_neg hn)
    (have d1 : decide (0 ≤ n) = false := decide_eq_false (by omega)); (have d2 : decide (n ≥ 0) = false := decide_eq_false (by omega)); clear hn
    go_enter Tryd.func32, Tryd.ntmps32
    go_wp2_with (go_at_call 43; go_loud (refine (Zeros_no p v L q n 2 _ R.out HE.out (by decide)).mono ?_; rintro r w1 ⟨rfl, hw⟩; have R1 := Lib.hid (R.out.below hw); have D1 := Lib.hid (D.out.trans (hw.mono D.out.size)); clear hw))
    go_ret2
    exact ⟨q, rfl, HQ.out, ⟨v, by rw [HL.out]; exact R1.out⟩, D1.out⟩
  · have HE := Lib.hid (show Wire.zerosE L n = 4 from zeros_big hn hn2)
    (have d1 : decide (0 ≤ n) = true := decide_eq_true hn); (have d2 : decide (n ≥ 0) = true := decide_eq_true hn); (have d3 : decide (n ≤ (L.length : Int)) = false := decide_eq_false (by omega)); (have d4 : decide (n > (L.length : Int)) = true := decide_eq_true hn2); clear hn hn2
    go_enter Tryd.func32, Tryd.ntmps32
    go_wp2_with (go_at_call 43; go_loud (refine (Zeros_no p v L q n 4 _ R.out HE.out (by decide)).mono ?_; rintro r w1 ⟨rfl, hw⟩; have R1 := Lib.hid (R.out.below hw); have D1 := Lib.hid (D.out.trans (hw.mono D.out.size)); clear hw))
    go_ret2
    exact ⟨q, rfl, HQ.out, ⟨v, by rw [HL.out]; exact R1.out⟩, D1.out⟩
  · cases hz : (L.take j).any nonzero
    · have ws := wadd_at (q := q) (j := j) (by have := HQ.out; have := HLL.out; omega) (by have := HLL2.out; omega)
      have HLJ := Lib.hid (show l.drop (q + j) = L.drop j by rw [← HL.out, List.drop_drop])
      have HQJ := Lib.hid (show q + j ≤ l.length by
        have : L.length = l.length - q := by rw [← HL.out, List.length_drop]
        have := HQ.out; omega)
      obtain ⟨u2, hu2, -, hr2⟩ := U.out.cut (P := Tryd.prog) (T := 23) Tryd.underlying23 bsz 0 j (by omega) hj
      have hr2 : ∀ w', (Instr.slice 23 (.slice au L.length cu) none (some (.int .i64 (j : Int))) none).run Tryd.prog w' = .ok u2 w' := hr2 rfl
      rw [List.drop_zero] at hu2
      have U2 := Lib.hid hu2; clear hu2
      obtain ⟨a2, n2, k2, rfl⟩ := bytes_shape U2.out
      have HZ := Lib.hid hz
      have hz2 : (!(!((L.take j).any nonzero))) = false := by rw [hz]; rfl
      obtain ⟨bz, hbz⟩ : ∃ bz, (!((L.take j).any nonzero)) = bz := ⟨_, rfl⟩
      obtain rfl : bz = true := by rw [← hbz, hz]; rfl
      have HBZ := Lib.hid hbz
      clear hz hz2 hbz
      (have d1 : decide (j ≤ L.length) = true := decide_eq_true hj); (have d2 : decide (0 ≤ (j : Int)) = true := decide_eq_true (by omega)); (have HJ := Lib.hid hj); clear hj
      go_enter Tryd.func32, Tryd.ntmps32
      go_wp2_with (first
        | (go_at_call 43; go_loud (refine (Zeros_ok p v L q j _ R.out HJ.out HZ.out).mono ?_; rintro r w1 ⟨rfl, ⟨v1, hr⟩, hc⟩; have R1 := Lib.hid hr; have D1 := Lib.hid (look_step D.out hc HP.out); have c1 : w1.cell? ⟨w.heap.size, 1, none⟩ = some (.int .i64 (j : Int)) := hc.cell (cell_of_row _ _ _ _ _ _ (heap_alloc_new w _)) HNE.out; clear hr hc))
        | (go_at_call 62; go_loud (refine (rZeros_any _ (L.take j) _ (U2.out.below D1.out)).mono ?_; rw [HBZ.out]; rintro r w' ⟨rfl, rfl⟩)))
      go_ret2
      exact ⟨q + j, rfl, HQJ.out, ⟨v1, by rw [HLJ.out]; exact R1.out⟩, D1.out⟩
    · obtain ⟨u2, hu2, -, hr2⟩ := U.out.cut (P := Tryd.prog) (T := 23) Tryd.underlying23 bsz 0 j (by omega) hj
      have hr2 : ∀ w', (Instr.slice 23 (.slice au L.length cu) none (some (.int .i64 (j : Int))) none).run Tryd.prog w' = .ok u2 w' := hr2 rfl
      rw [List.drop_zero] at hu2
      have U2 := Lib.hid hu2; clear hu2
      obtain ⟨a2, n2, k2, rfl⟩ := bytes_shape U2.out
      have HE := Lib.hid (show Wire.zerosE L j = 6 by unfold Wire.zerosE; rw [if_neg (by omega), if_neg (by omega), Int.toNat_natCast, if_pos hz])
      obtain ⟨bz, hbz⟩ : ∃ bz, (!((L.take j).any nonzero)) = bz := ⟨_, rfl⟩
      obtain rfl : bz = false := by rw [← hbz, hz]; rfl
      have HBZ := Lib.hid hbz
      clear hz hbz
      (have d1 : decide (j ≤ L.length) = true := decide_eq_true hj); (have d2 : decide (0 ≤ (j : Int)) = true := decide_eq_true (by omega)); (have HJ := Lib.hid hj); clear hj
      go_enter Tryd.func32, Tryd.ntmps32
      go_wp2_with (first
        | (go_at_call 43; go_loud (refine (Zeros_no p v L q j 6 _ R.out HE.out (by decide)).mono ?_; rintro r w1 ⟨rfl, hw⟩; have R1 := Lib.hid (R.out.below hw); have D1 := Lib.hid (D.out.trans (hw.mono D.out.size)); have c1 : w1.cell? ⟨w.heap.size, 1, none⟩ = some (.int .i64 (j : Int)) := (hw.cell (p := ⟨w.heap.size, 1, none⟩) (by simp)).trans (cell_of_row _ _ _ _ _ _ (heap_alloc_new w _)); clear hw))
        | (go_at_call 62; go_loud (refine (rZeros_any _ (L.take j) _ (U2.out.below D1.out)).mono ?_; rw [HBZ.out]; rintro r w' ⟨rfl, rfl⟩)))
      go_ret2
      exact ⟨q, rfl, HQ.out, ⟨v, by rw [HL.out]; exact R1.out⟩, D1.out⟩
set_option maxHeartbeats 1600000 in
set_option maxRecDepth 100000 in
theorem look4 (w0 w : World) (p d : Nat) (v bv sv : Value) (l L : List (BitVec 8)) (ks : List Int) (q : Nat) (n : Int) (h : LookAt w0 w p d v bv sv l L ks q) :
    Calls Tryd.prog 32 #[.pointer (some ⟨p, 0, none⟩), bv, .int .i64 q, .agg #[.int .i64 4, .int .i64 n, sv]] w (LookOut w0 p d l) := by
  have hn := lookN_any n L
  unfold LookN at hn
  obtain ⟨rd, hbv, hs, hbw, hp, hl, hk, hq, hL⟩ := h; obtain ⟨u, hu, hr⟩ := hbv.cutl (P := Tryd.prog) (T := 23) Tryd.underlying23 bsz q hq; rw [hL] at hu; have U := Lib.hid hu; obtain ⟨ab, cb, rfl, -, -, hcb, -⟩ := id hbv; obtain ⟨au, cu, rfl, -, -, hcu, -⟩ := id hu; have S := Lib.hid hs; obtain ⟨ai, cs, rfl, -, -, hcs, -⟩ := id hs; have HP := Lib.hid hp; have HL := Lib.hid hL; have HQ := Lib.hid hq; have HLL := Lib.hid hl; have HK := Lib.hid hk; have hLl : L.length ≤ 200 := (by rw [← hL, List.length_drop]; omega); have HLL2 := Lib.hid hLl; have R := Lib.hid (rd.below (gr_alloc w (.cells #[.int .i64 4, .int .i64 n, .slice ai ks.length cs] 68))); have D := Lib.hid (hbw.trans ((gr_alloc w (.cells #[.int .i64 4, .int .i64 n, .slice ai ks.length cs] 68)).mono hbw.size)); have HNE := Lib.hid (show ¬ w.heap.size = p by have := rd.lt; omega)
  clear hbv hs rd hp hL hu
  rcases hn with hn | ⟨hn, hn2⟩ | ⟨j, rfl, hj⟩
  · have HE := Lib.hid (show Wire.cutE L n = 2 from cut_neg hn)
    (have d1 : decide (0 ≤ n) = false := decide_eq_false (by omega)); (have d2 : decide (n ≥ 0) = false := decide_eq_false (by omega)); clear hn
    go_enter Tryd.func32, Tryd.ntmps32
    go_wp2_with (go_at_call 44; go_loud (refine (Skip_no _ p v L q n 2 _ R.out HE.out (by decide)).mono ?_; rintro r w' ⟨rfl, rfl⟩))
    go_ret2
    exact ⟨q, rfl, HQ.out, ⟨v, by rw [HL.out]; exact R.out⟩, D.out⟩
  · have HE := Lib.hid (show Wire.cutE L n = 4 from cut_big hn hn2)
    (have d1 : decide (0 ≤ n) = true := decide_eq_true hn); (have d2 : decide (n ≥ 0) = true := decide_eq_true hn); (have d3 : decide (n ≤ (L.length : Int)) = false := decide_eq_false (by omega)); (have d4 : decide (n > (L.length : Int)) = true := decide_eq_true hn2); clear hn hn2
    go_enter Tryd.func32, Tryd.ntmps32
    go_wp2_with (go_at_call 44; go_loud (refine (Skip_no _ p v L q n 4 _ R.out HE.out (by decide)).mono ?_; rintro r w' ⟨rfl, rfl⟩))
    go_ret2
    exact ⟨q, rfl, HQ.out, ⟨v, by rw [HL.out]; exact R.out⟩, D.out⟩
  · have ws := wadd_at (q := q) (j := j) (by have := HQ.out; have := HLL.out; omega) (by have := HLL2.out; omega)
    have HLJ := Lib.hid (show l.drop (q + j) = L.drop j by rw [← HL.out, List.drop_drop])
    have HQJ := Lib.hid (show q + j ≤ l.length by
      have : L.length = l.length - q := by rw [← HL.out, List.length_drop]
      have := HQ.out; omega)
    (have d1 : decide (j ≤ L.length) = true := decide_eq_true hj); (have d2 : decide (0 ≤ (j : Int)) = true := decide_eq_true (by omega)); (have HJ := Lib.hid hj); clear hj
    go_enter Tryd.func32, Tryd.ntmps32
    go_wp2_with (go_at_call 44; go_loud (refine (Skip_ok _ p v L q j _ R.out HJ.out).mono ?_; rintro r w1 ⟨rfl, ⟨v1, hr⟩, hc⟩; have R1 := Lib.hid hr; have D1 := Lib.hid (look_step D.out hc HP.out); have c1 : w1.cell? ⟨w.heap.size, 1, none⟩ = some (.int .i64 (j : Int)) := hc.cell (cell_of_row _ _ _ _ _ _ (heap_alloc_new w _)) HNE.out; clear hr hc))
    go_ret2
    exact ⟨q + j, rfl, HQJ.out, ⟨v1, by rw [HLJ.out]; exact R1.out⟩, D1.out⟩
end Go.Proofs.YteicmbapipnbjaaDoor
