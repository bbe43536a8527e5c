/- One call of a reader, as WireReads makes it (the law's inner function): kinds 0 and 1. -/
import Derived.Test.YteicmbapipnbjaaDoorRef01F
import Derived.Test.YteicmbapipnbjaaDoorLaw01A
namespace Go.Proofs.YteicmbapipnbjaaDoor
open Go.RowKit
set_option linter.unusedVariables false
set_option linter.unusedSimpArgs false
structure LookAt (w0 w : World) (p d : Nat) (v bv sv : Value) (l L : List (BitVec 8)) (ks : List Int) (q : Nat) : Prop where
  rd : RdAt w 99 p d v L q
  b : BytesV w0 bv l
  s : IntsV w0 sv ks
  hb : Below w0.heap.size w0 w
  hp : w0.heap.size ≤ p
  hl : l.length ≤ 200
  hk : ks.length ≤ 20
  hq : q ≤ l.length
  hL : l.drop q = L
def LookOut (w0 : World) (p d : Nat) (l : List (BitVec 8)) (e : Ending) (w' : World) : Prop :=
  ∃ a : Nat, e = .returned (.tuple #[.int .i64 a, .bool true]) ∧ a ≤ l.length ∧ (∃ v', RdAt w' 99 p d v' (l.drop a) a) ∧ Below w0.heap.size w0 w'
def LookN (n : Int) (L : List (BitVec 8)) : Prop := n < 0 ∨ (0 ≤ n ∧ (L.length : Int) < n) ∨ ∃ j : Nat, n = j ∧ j ≤ L.length
theorem lookN_any (n : Int) (L : List (BitVec 8)) : LookN n L := by
  unfold LookN
  by_cases h : n < 0
  · exact .inl h
  · by_cases h2 : (L.length : Int) < n
    · exact .inr (.inl ⟨by omega, h2⟩)
    · exact .inr (.inr ⟨n.toNat, by omega, by omega⟩)
theorem look_step {w0 W w1 : World} {p : Nat} (D : Below w0.heap.size w0 W) (hc : Chg (fun b => b = p) W w1) (hp : w0.heap.size ≤ p) : Below w0.heap.size w0 w1 :=
  hc.fresh D (fun k hk => hk ▸ hp)
theorem ints_lit (w : World) (n : Int) : IntsV (w.alloc (.cells #[.int .i64 n] 3)) (.slice (some ⟨w.heap.size, 0, none⟩) 1 1) [n] :=
  ⟨_, _, rfl, by simp, Nat.le_refl _, by simp, Row.lit _ _ _ _⟩
set_option maxHeartbeats 1600000 in
set_option maxRecDepth 100000 in
theorem look0_no (w0 w : World) (p d : Nat) (v bv sv : Value) (l L : List (BitVec 8)) (ks : List Int) (q : Nat) (n er : Int) (h : LookAt w0 w p d v bv sv l L ks q) (he : Wire.takeE L n = er) (h0 : er ≠ 0) :
    Calls Tryd.prog 32 #[.pointer (some ⟨p, 0, none⟩), bv, .int .i64 q, .agg #[.int .i64 0, .int .i64 n, sv]] w (LookOut w0 p d l) := by
  have hn := lookN_any n L
  unfold LookN at hn
  obtain ⟨rd, hbv, hs, hbw, hp, hl, hk, hq, hL⟩ := h; obtain ⟨u, hu, hr⟩ := hbv.cutl (P := Tryd.prog) (T := 23) Tryd.underlying23 bsz q hq; rw [hL] at hu; have U := Lib.hid hu; obtain ⟨ab, cb, rfl, -, -, hcb, -⟩ := id hbv; obtain ⟨au, cu, rfl, -, -, hcu, -⟩ := id hu; have S := Lib.hid hs; obtain ⟨ai, cs, rfl, -, -, hcs, -⟩ := id hs; have HP := Lib.hid hp; have HL := Lib.hid hL; have HQ := Lib.hid hq; have HLL := Lib.hid hl; have HK := Lib.hid hk; have hLl : L.length ≤ 200 := (by rw [← hL, List.length_drop]; omega); have HLL2 := Lib.hid hLl; have R := Lib.hid (rd.below (gr_alloc w (.cells #[.int .i64 0, .int .i64 n, .slice ai ks.length cs] 68))); have D := Lib.hid (hbw.trans ((gr_alloc w (.cells #[.int .i64 0, .int .i64 n, .slice ai ks.length cs] 68)).mono hbw.size)); have HNE := Lib.hid (show ¬ w.heap.size = p by have := rd.lt; omega)
  have hre : Wire.readE L [n] = er := by unfold Wire.readE; rw [he, if_neg h0]
  have g1 : Wire.gotN L [n] = 0 := by unfold Wire.gotN; rw [hre, if_neg h0]
  have g2 : Wire.gotV L [n] = [] := by unfold Wire.gotV; rw [hre, if_neg h0]
  have HRE := Lib.hid hre; have HE := Lib.hid he; have H0 := Lib.hid h0; have G1 := Lib.hid g1; have G2 := Lib.hid g2
  have q1 : (er == 0) = false := by simpa using h0
  have q2 : (er != 0) = true := by simpa using h0
  clear hbv hs rd hp hL hu hre he h0 g1 g2
  rcases hn with hn | ⟨hn, hn2⟩ | ⟨j, rfl, hj⟩
  · (have d1 : decide (0 ≤ n) = false := decide_eq_false (by omega)); (have d2 : decide (n ≥ 0) = false := decide_eq_false (by omega)); clear hn
    go_enter Tryd.func32, Tryd.ntmps32
    go_upto_region 10 with (first
      | (go_at_call 41; go_loud (refine (Next_no p v L q n er _ R.out HE.out H0.out).mono ?_; rintro r w1 ⟨rfl, hw⟩; have R1 := Lib.hid (R.out.below hw); have D1 := Lib.hid (D.out.trans (hw.mono D.out.size)); have c1 : w1.cell? ⟨w.heap.size, 1, none⟩ = some (.int .i64 n) := (hw.cell (p := ⟨w.heap.size, 1, none⟩) (by simp)).trans (cell_of_row _ _ _ _ _ _ (heap_alloc_new w _)); clear hw))
      | (go_at_call 61; go_loud (refine (rGetAll_at _ _ L [n] er 0 [] (w1.alloc (.cells #[.int .i64 n] 3)) (U.out.below (D1.out.trans ((gr_alloc w1 _).mono D1.out.size))) (ints_lit w1 n) (by have := HLL2.out; omega) (by simp) HRE.out G1.out G2.out).mono ?_; rintro r w2 ⟨x2, rfl, hx, hw⟩; have R2 := Lib.hid ((R1.out.below (gr_alloc w1 (.cells #[.int .i64 n] 3))).below hw); have D2 := Lib.hid ((D1.out.trans ((gr_alloc w1 (.cells #[.int .i64 n] 3)).mono D1.out.size)).trans (hw.mono (Nat.le_trans D1.out.size (gr_alloc w1 (.cells #[.int .i64 n] 3)).size))); clear hw)))
    obtain ⟨a2, n2, c2, rfl⟩ : ∃ a n c, x2 = .slice a n c := by obtain ⟨a, c, e, _⟩ := hx; exact ⟨_, _, _, e⟩
    clear hx
    go_quiet (skip)
    go_wp2
    go_ret2
    exact ⟨q, rfl, HQ.out, ⟨v, by rw [HL.out]; exact R2.out.below (gr_drewN _ _)⟩, D2.out.trans ((gr_drewN _ _).mono D2.out.size)⟩
  · (have d1 : decide (0 ≤ n) = true := decide_eq_true hn); (have d2 : decide (n ≥ 0) = true := decide_eq_true hn); (have d3 : decide (n ≤ (L.length : Int)) = false := decide_eq_false (by omega)); (have d4 : decide (n > (L.length : Int)) = true := decide_eq_true hn2); clear hn hn2
    go_enter Tryd.func32, Tryd.ntmps32
    go_upto_region 10 with (first
      | (go_at_call 41; go_loud (refine (Next_no p v L q n er _ R.out HE.out H0.out).mono ?_; rintro r w1 ⟨rfl, hw⟩; have R1 := Lib.hid (R.out.below hw); have D1 := Lib.hid (D.out.trans (hw.mono D.out.size)); have c1 : w1.cell? ⟨w.heap.size, 1, none⟩ = some (.int .i64 n) := (hw.cell (p := ⟨w.heap.size, 1, none⟩) (by simp)).trans (cell_of_row _ _ _ _ _ _ (heap_alloc_new w _)); clear hw))
      | (go_at_call 61; go_loud (refine (rGetAll_at _ _ L [n] er 0 [] (w1.alloc (.cells #[.int .i64 n] 3)) (U.out.below (D1.out.trans ((gr_alloc w1 _).mono D1.out.size))) (ints_lit w1 n) (by have := HLL2.out; omega) (by simp) HRE.out G1.out G2.out).mono ?_; rintro r w2 ⟨x2, rfl, hx, hw⟩; have R2 := Lib.hid ((R1.out.below (gr_alloc w1 (.cells #[.int .i64 n] 3))).below hw); have D2 := Lib.hid ((D1.out.trans ((gr_alloc w1 (.cells #[.int .i64 n] 3)).mono D1.out.size)).trans (hw.mono (Nat.le_trans D1.out.size (gr_alloc w1 (.cells #[.int .i64 n] 3)).size))); clear hw)))
    obtain ⟨a2, n2, c2, rfl⟩ : ∃ a n c, x2 = .slice a n c := by obtain ⟨a, c, e, _⟩ := hx; exact ⟨_, _, _, e⟩
    clear hx
    go_quiet (skip)
    go_wp2
    go_ret2
    exact ⟨q, rfl, HQ.out, ⟨v, by rw [HL.out]; exact R2.out.below (gr_drewN _ _)⟩, D2.out.trans ((gr_drewN _ _).mono D2.out.size)⟩
  · (have d1 : decide (j ≤ L.length) = true := decide_eq_true hj); (have d2 : decide (0 ≤ (j : Int)) = true := decide_eq_true (by omega)); (have HJ := Lib.hid hj); clear hj
    go_enter Tryd.func32, Tryd.ntmps32
    go_upto_region 10 with (first
      | (go_at_call 41; go_loud (refine (Next_no p v L q (j : Int) er _ R.out HE.out H0.out).mono ?_; rintro r w1 ⟨rfl, hw⟩; have R1 := Lib.hid (R.out.below hw); have D1 := Lib.hid (D.out.trans (hw.mono D.out.size)); have c1 : w1.cell? ⟨w.heap.size, 1, none⟩ = some (.int .i64 (j : Int)) := (hw.cell (p := ⟨w.heap.size, 1, none⟩) (by simp)).trans (cell_of_row _ _ _ _ _ _ (heap_alloc_new w _)); clear hw))
      | (go_at_call 61; go_loud (refine (rGetAll_at _ _ L [(j : Int)] er 0 [] (w1.alloc (.cells #[.int .i64 (j : Int)] 3)) (U.out.below (D1.out.trans ((gr_alloc w1 _).mono D1.out.size))) (ints_lit w1 (j : Int)) (by have := HLL2.out; omega) (by simp) HRE.out G1.out G2.out).mono ?_; rintro r w2 ⟨x2, rfl, hx, hw⟩; have R2 := Lib.hid ((R1.out.below (gr_alloc w1 (.cells #[.int .i64 (j : Int)] 3))).below hw); have D2 := Lib.hid ((D1.out.trans ((gr_alloc w1 (.cells #[.int .i64 (j : Int)] 3)).mono D1.out.size)).trans (hw.mono (Nat.le_trans D1.out.size (gr_alloc w1 (.cells #[.int .i64 (j : Int)] 3)).size))); clear hw)))
    obtain ⟨a2, n2, c2, rfl⟩ : ∃ a n c, x2 = .slice a n c := by obtain ⟨a, c, e, _⟩ := hx; exact ⟨_, _, _, e⟩
    clear hx
    go_quiet (skip)
    go_wp2
    go_ret2
    exact ⟨q, rfl, HQ.out, ⟨v, by rw [HL.out]; exact R2.out.below (gr_drewN _ _)⟩, D2.out.trans ((gr_drewN _ _).mono D2.out.size)⟩
theorem wadd_at {q j : Nat} (h1 : q ≤ 200) (h2 : j ≤ 200) : IntKind.i64.wrap ((q : Int) + (j : Int)) = (q : Int) + (j : Int) := by
  unfold IntKind.wrap; simp [IntKind.bits, IntKind.signed]; omega
set_option maxHeartbeats 1600000 in
set_option maxRecDepth 100000 in
theorem look0_ok (w0 w : World) (p d : Nat) (v bv sv : Value) (l L : List (BitVec 8)) (ks : List Int) (q j : Nat) (h : LookAt w0 w p d v bv sv l L ks q) (h1 : 1 ≤ j) (h8 : j ≤ 8) (hj : j ≤ L.length) :
    Calls Tryd.prog 32 #[.pointer (some ⟨p, 0, none⟩), bv, .int .i64 q, .agg #[.int .i64 0, .int .i64 j, sv]] w (LookOut w0 p d l) := by
  obtain ⟨n, hn⟩ : ∃ n : Int, n = j := ⟨_, rfl⟩
  rw [← hn]
  obtain ⟨rd, hbv, hs, hbw, hp, hl, hk, hq, hL⟩ := h; obtain ⟨u, hu, hr⟩ := hbv.cutl (P := Tryd.prog) (T := 23) Tryd.underlying23 bsz q hq; rw [hL] at hu; have U := Lib.hid hu; obtain ⟨ab, cb, rfl, -, -, hcb, -⟩ := id hbv; obtain ⟨au, cu, rfl, -, -, hcu, -⟩ := id hu; have S := Lib.hid hs; obtain ⟨ai, cs, rfl, -, -, hcs, -⟩ := id hs; have HP := Lib.hid hp; have HL := Lib.hid hL; have HQ := Lib.hid hq; have HLL := Lib.hid hl; have HK := Lib.hid hk; have hLl : L.length ≤ 200 := (by rw [← hL, List.length_drop]; omega); have HLL2 := Lib.hid hLl; have R := Lib.hid (rd.below (gr_alloc w (.cells #[.int .i64 0, .int .i64 n, .slice ai ks.length cs] 68))); have D := Lib.hid (hbw.trans ((gr_alloc w (.cells #[.int .i64 0, .int .i64 n, .slice ai ks.length cs] 68)).mono hbw.size)); have HNE := Lib.hid (show ¬ w.heap.size = p by have := rd.lt; omega)
  subst hn
  have h0 : Wire.takeE L j = 0 := by unfold Wire.takeE; rw [if_neg (by omega), if_neg (by omega)]
  obtain ⟨x, hx⟩ : ∃ x, Wire.get (L.take j) = x := ⟨_, rfl⟩
  have hre : Wire.readE L [(j : Int)] = 0 := by unfold Wire.readE; rw [h0, if_pos rfl]; rfl
  have g1 : Wire.gotN L [(j : Int)] = j := by unfold Wire.gotN; rw [hre, if_pos rfl]; simp [Wire.readN]
  have g2 : Wire.gotV L [(j : Int)] = [x] := by unfold Wire.gotV; rw [hre, if_pos rfl]; simp [Wire.readV, hx]
  have ws := wadd_at (q := q) (j := j) (by omega) (by omega)
  have hLj : l.drop (q + j) = L.drop j := by rw [← hL, List.drop_drop]
  have hqj : q + j ≤ l.length := by have : L.length = l.length - q := by rw [← hL, List.length_drop]
                                    omega
  have HRE := Lib.hid hre; have HX := Lib.hid hx; have G1 := Lib.hid g1; have G2 := Lib.hid g2; have H1 := Lib.hid h1; have H8 := Lib.hid h8; have HLJ := Lib.hid hLj; have HQJ := Lib.hid hqj
  clear hbv hs rd hp hL hu hre h0 g1 g2 hx h1 h8 hLj hqj
  (have d1 : decide (j ≤ L.length) = true := decide_eq_true hj); (have d2 : decide (0 ≤ (j : Int)) = true := decide_eq_true (by omega)); (have HJ := Lib.hid hj); clear hj
  go_enter Tryd.func32, Tryd.ntmps32
  go_upto_region 10 with (first
    | (go_at_call 41; go_loud (refine (Next_ok p v L q j x _ R.out H1.out H8.out HJ.out HX.out).mono ?_; rintro r w1 ⟨rfl, ⟨v1, hr⟩, hc⟩; have R1 := Lib.hid hr; have D1 := Lib.hid (look_step D.out hc HP.out); have c1 : w1.cell? ⟨w.heap.size, 1, none⟩ = some (.int .i64 (j : Int)) := hc.cell (cell_of_row _ _ _ _ _ _ (heap_alloc_new w _)) HNE.out; clear hr hc))
    | (go_at_call 61; go_loud (refine (rGetAll_at _ _ L [(j : Int)] 0 j [x] (w1.alloc (.cells #[.int .i64 j] 3)) (U.out.below (D1.out.trans ((gr_alloc w1 _).mono D1.out.size))) (ints_lit w1 j) (by have := HLL2.out; omega) (by simp) HRE.out G1.out G2.out).mono ?_; rintro r w2 ⟨x2, rfl, hx, hw⟩; have R2 := Lib.hid ((R1.out.below (gr_alloc w1 (.cells #[.int .i64 j] 3))).below hw); have D2 := Lib.hid ((D1.out.trans ((gr_alloc w1 (.cells #[.int .i64 j] 3)).mono D1.out.size)).trans (hw.mono (Nat.le_trans D1.out.size (gr_alloc w1 (.cells #[.int .i64 j] 3)).size))); clear hw)))
  obtain ⟨a2, c2, rfl, -, -, -, hr⟩ := hx
  obtain ⟨g, o, rfl, cg⟩ := hr.at (i := 0) (v := .int .u64 (uv x)) rfl
  have cg' : w2.cell? ⟨g, o, none⟩ = some (.int .u64 (uv x)) := cg
  clear hr cg
  go_quiet (skip)
  go_wp2
  go_ret2
  exact ⟨q + j, rfl, HQJ.out, ⟨v1, by rw [HLJ.out]; exact R2.out.below (gr_drewN _ _)⟩, D2.out.trans ((gr_drewN _ _).mono D2.out.size)⟩
end Go.Proofs.YteicmbapipnbjaaDoor
