/- The reference's GetAll: fields at the front of bytes. -/
import Derived.Test.YteicmbapipnbjaaDoorRef01E
import Derived.Test.YteicmbapipnbjaaDoorRef01B
import Derived.Test.YteicmbapipnbjaaDoorWireN
namespace Go.Proofs.YteicmbapipnbjaaDoor
open Go.RowKit
set_option linter.unusedVariables false
set_option linter.unusedSimpArgs false
namespace Wire
theorem readL_drop (l : List (BitVec 8)) (ks : List Int) : readL l ks = l.drop (readN ks) := by
  induction ks generalizing l with
  | nil => simp [readL, readN]
  | cons k ks ih => simp only [readL, readN]; rw [ih, List.drop_drop]
theorem readN_le (l : List (BitVec 8)) (ks : List Int) (h : readE l ks = 0) : readN ks ≤ l.length := by
  induction ks generalizing l with
  | nil => simp [readN]
  | cons k ks ih =>
    simp only [readE] at h
    split at h
    · rename_i e
      have := ih _ h
      rcases takeE_cases l k with h1 | ⟨_, j, rfl, h1, h2, h3⟩
      · exact absurd e h1
      · simp only [readN, Int.toNat_natCast] at *
        rw [List.length_drop] at this
        omega
    · rename_i e; exact absurd h e
def gotN (l : List (BitVec 8)) (ks : List Int) : Nat := if readE l ks = 0 then readN ks else 0
def gotV (l : List (BitVec 8)) (ks : List Int) : List (BitVec 64) := if readE l ks = 0 then readV l ks else []
end Wire
set_option maxHeartbeats 1600000 in
theorem rGetAll_at (v s : Value) (l : List (BitVec 8)) (ks : List Int) (er : Int) (n : Nat) (vs : List (BitVec 64)) (w : World) (hv : BytesV w v l) (hs : IntsV w s ks) (hl : l.length ≤ 1000000000) (hks : ks.length ≤ 100000) (he : Wire.readE l ks = er) (hn : Wire.gotN l ks = n) (hvs : Wire.gotV l ks = vs) :
    Calls Tryd.prog 61 #[v, s] w fun e w' => ∃ x, e = .returned (.tuple #[x, .int .i64 n, .int .i64 er]) ∧ WordsV w' x vs ∧ Below w.heap.size w w' := by
  have V := Lib.hid hv
  obtain ⟨a, c, rfl, -, -, hc, hrow⟩ := hs
  obtain ⟨av, cv, rfl, -, -, -, -⟩ := hv
  have S := Lib.hid hrow; have HE := Lib.hid he; have HN := Lib.hid hn; have HVS := Lib.hid hvs; have HL := Lib.hid hl; have HKS := Lib.hid hks
  have hm : ks.length ≤ 9223372036854775807 := by omega
  clear hrow he hn hvs hl hks
  go_enter Tryd.func61, Tryd.ntmps61
  go_wp2
  go_loopw [7, 8, 9] (fun o at' i wr => ∃ k : Nat, k ≤ ks.length ∧ i = .int .i64 k ∧ Hid (Wire.readE l (ks.take k) = 0) ∧ (∃ N : Nat, Hid (Wire.readN (ks.take k) = N) ∧ at' = .int .i64 N) ∧ wr.ownsRow w.heap.size 22 1 o k (wd (Wire.readV l (ks.take k))) ∧ Below w.heap.size w wr) (fun _ _ i _ => ks.length - (intOf i).toNat)
  case atStart => exact ⟨0, by omega, rfl, rfl, ⟨0, rfl, rfl⟩, World.ownsRow_nil _ _ _ _, Below.refl _ _⟩
  case round =>
    obtain ⟨k, hk, rfl, hz, ⟨N, hN, rfl⟩, ho, hb⟩ := hrel
    have O := Lib.hid ho; have B := Lib.hid hb; clear ho hb
    have hNl : N ≤ l.length := by have := Wire.readN_le l _ hz.out; rw [hN.out] at this; exact this
    have HNL := Lib.hid hNl
    by_cases hlt : k < ks.length
    · obtain ⟨j, hj⟩ : ∃ j, ks[k]? = some j := ⟨ks[k], List.getElem?_eq_getElem hlt⟩
      have hcell : (ks.map (Value.int .i64))[k]? = some (.int .i64 j) := by rw [List.getElem?_map, hj]; rfl
      obtain ⟨b, o, rfl, cw⟩ := S.out.at hcell
      have hbb : b < w.heap.size := block_lt_of_cell cw
      have c0 : wr.cell? ⟨b, o + k, none⟩ = some (.int .i64 j) := (B.out.cell (p := ⟨b, o + k, none⟩) hbb).trans cw
      have CW := Lib.hid cw; have HBB := Lib.hid hbb
      obtain ⟨-, s2, s3, s4⟩ := Wire.read_snoc l (ks.take k) j
      rw [← Wire.read_take l ks k j hj] at s2 s3 s4
      have s4 := s4 hz.out
      have hdr : Wire.readL l (ks.take k) = l.drop N := by rw [Wire.readL_drop, hN.out]
      rw [hdr] at s2 s4
      rw [hN.out] at s3
      have hst : Wire.takeE (l.drop N) j ≠ 0 → Wire.takeE (l.drop N) j = er := fun h => by rw [← HE.out, Wire.readE_stop l ks k j hj hz.out (by rw [hdr]; exact h), hdr]
      have hdl : (l.drop N).length = l.length - N := List.length_drop
      have S2 := Lib.hid s2; have S3 := Lib.hid s3; have S4 := Lib.hid s4; have HST := Lib.hid hst; have HDL := Lib.hid hdl
      clear cw hbb hj hcell s2 s3 s4 hdr hst hdl
      have wsub : IntKind.i64.wrap ((l.length : Int) - (N : Int)) = (l.length : Int) - (N : Int) := by
        have := HL.out; unfold IntKind.wrap; simp [IntKind.bits, IntKind.signed]; omega
      by_cases h1 : j < 1 ∨ 8 < j
      · have ht : Wire.takeE (l.drop N) j = 2 := by unfold Wire.takeE; rw [if_pos h1]
        obtain rfl : er = 2 := by rw [← HST.out (by rw [ht]; decide), ht]
        obtain rfl : n = 0 := by rw [← HN.out]; unfold Wire.gotN; rw [HE.out]; rfl
        obtain rfl : vs = [] := by rw [← HVS.out]; unfold Wire.gotV; rw [HE.out]; rfl
        clear ht wsub
        rcases h1 with h1 | h1
        · go_wp2
          go_ret3
          exact ⟨_, rfl, WordsV.nil _, B.out⟩
        · have d1 : decide (j < 1) = false := decide_eq_false (by omega)
          go_wp2
          go_ret3
          exact ⟨_, rfl, WordsV.nil _, B.out⟩
      · have d1 : decide (j < 1) = false := decide_eq_false (by omega)
        have d2 : decide (8 < j) = false := decide_eq_false (by omega)
        by_cases h2 : (l.length : Int) - (N : Int) < j
        · have ht : Wire.takeE (l.drop N) j = 4 := by unfold Wire.takeE; rw [if_neg h1, HDL.out, if_pos (by omega)]
          obtain rfl : er = 4 := by rw [← HST.out (by rw [ht]; decide), ht]
          obtain rfl : n = 0 := by rw [← HN.out]; unfold Wire.gotN; rw [HE.out]; rfl
          obtain rfl : vs = [] := by rw [← HVS.out]; unfold Wire.gotV; rw [HE.out]; rfl
          have d3 : decide ((l.length : Int) - (N : Int) < j) = true := decide_eq_true h2
          clear ht h1 h2
          go_wp2
          go_ret3
          exact ⟨_, rfl, WordsV.nil _, B.out⟩
        · obtain ⟨q, rfl⟩ : ∃ q : Nat, j = q := ⟨j.toNat, by omega⟩
          have ht : Wire.takeE (l.drop N) q = 0 := by unfold Wire.takeE; rw [if_neg h1, HDL.out, if_neg (by omega)]
          have d3 : decide ((l.length : Int) - (N : Int) < (q : Int)) = false := decide_eq_false h2
          have wadd : IntKind.i64.wrap ((N : Int) + (q : Int)) = (N : Int) + (q : Int) := by
            have := HL.out; unfold IntKind.wrap; simp [IntKind.bits, IntKind.signed]; omega
          have hq1 : 1 ≤ q := by omega
          have hq8 : q ≤ 8 := by omega
          have hNq : N + q ≤ l.length := by omega
          obtain ⟨u, hu, hr, -⟩ := (V.out.below B.out).cut (P := Tryd.prog) (T := 23) Tryd.underlying23 bsz N (N + q) (by omega) hNq
          have hr' : ∀ w', (Instr.slice 23 (.slice av l.length cv) (some (.int .i64 (N : Int))) (some (.int .i64 ((N : Int) + (q : Int)))) none).run Tryd.prog w' = .ok u w' := by
            intro w'; have := hr w'; rwa [show ((N + q : Nat) : Int) = (N : Int) + (q : Int) by omega] at this
          rw [List.drop_take, show N + q - N = q by omega] at hu
          have hlen : ((l.drop N).take q).length = q := by rw [List.length_take, List.length_drop]; omega
          obtain ⟨x, hx⟩ : ∃ x, Wire.get ((l.drop N).take q) = x := ⟨_, rfl⟩
          have hg2 : Wire.getE ((l.drop N).take q) = 0 := by unfold Wire.getE; rw [hlen, if_neg (by omega)]
          have hg1 : Wire.getV ((l.drop N).take q) = x := by unfold Wire.getV; rw [if_pos hg2]; exact hx
          have U := Lib.hid hu; have HX := Lib.hid hx; have HT := Lib.hid ht; have HNQ := Lib.hid hNq; have G1 := Lib.hid hg1; have G2 := Lib.hid hg2
          clear h1 h2 hr hu hlen hx ht hNq hg1 hg2
          obtain ⟨au, nu, cu, rfl⟩ := bytes_shape U.out
          go_wp2_with (first
            | (go_at_call 16; go_loud (refine (rGet_at _ _ x 0 _ U.out G1.out G2.out).mono ?_; rintro r w' ⟨rfl, rfl⟩))
            | (at_builtin; go_loud (refine app_word rfl (.tmp 52) (.tmp 54) rfl _ w.heap.size k _ rfl (own_below O.out (gr_alloc wr (.cells #[.int .u64 (uv x)] 22))) (Nat.le_trans B.out.size (gr_alloc wr (.cells #[.int .u64 (uv x)] 22)).size) wr.heap.size x rfl (heap_alloc_new wr _) (by have := HKS.out; omega) ?_; intro v2 w2 ho hg _; have O2 := Lib.hid ho; have B2 := Lib.hid ((B.out.trans ((gr_alloc wr (.cells #[.int .u64 (uv x)] 22)).mono B.out.size)).grown hg (Nat.le_trans B.out.size (gr_alloc wr (.cells #[.int .u64 (uv x)] 22)).size) (fun k hk => (O.out.lt k hk).1)); have c2 : w2.cell? ⟨b, o + k, none⟩ = some (.int .i64 (q : Int)) := (B2.out.cell (p := ⟨b, o + k, none⟩) HBB.out).trans CW.out; clear ho hg)))
          go_roundw
          case rel => exact ⟨k + 1, by omega, by go_num, Lib.hid (by rw [S4.out, HT.out]), ⟨N + q, Lib.hid (by rw [S3.out]; omega), by go_num⟩, by rw [S2.out, Int.toNat_natCast, HX.out]; exact O2.out, B2.out⟩
          case measure => simp [intOf]; omega
    · obtain rfl : k = ks.length := by omega
      have hz' := hz.out; have hN' := hN.out; have ho := O.out
      rw [List.take_length] at hz' hN' ho
      obtain rfl : er = 0 := by rw [← HE.out, hz']
      obtain rfl : n = N := by rw [← HN.out, ← hN']; unfold Wire.gotN; rw [if_pos hz']
      obtain rfl : vs = Wire.readV l ks := by rw [← HVS.out]; unfold Wire.gotV; rw [if_pos hz']
      have OO := Lib.hid ho
      clear hz' hN' ho
      go_wp2
      go_ret3
      exact ⟨_, rfl, WordsV.of_own (by rw [Wire.readV_len]; exact OO.out), B.out⟩
end Go.Proofs.YteicmbapipnbjaaDoor
