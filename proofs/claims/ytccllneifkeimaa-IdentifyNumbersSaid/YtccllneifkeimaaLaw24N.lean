/- The law IdentifyNumbers: the walk. -/
import Derived.Test.YtccllneifkeimaaRefNumD
import Derived.Test.YtccllneifkeimaaLaw24A
namespace Go.Proofs.Ytccllneifkeimaa
open Go.RowKit Idn Rise
set_option linter.unusedVariables false
set_option linter.unusedSimpArgs false
namespace Idn
def numE (l : List (BitVec 16)) : Int := if okN l then 0 else 2
def numR (l : List (BitVec 16)) : List (BitVec 8) := if okN l then numB l else []
theorem pl2_in (ys : List (BitVec 16)) (h : ys.length ≤ 2048) : ∀ q ∈ pl2 ys, q.1 + q.2.length ≤ zeros.length := by
  intro q hq
  unfold pl2 at hq
  obtain ⟨⟨y, i⟩, hm, rfl⟩ := List.mem_map.1 hq
  have := (List.mem_zipIdx hm).2.1
  simp only [Wire.le_len, zeros_len]; omega
theorem numR_len (l : List (BitVec 16)) : (numR l).length ≤ 4096 := by
  unfold numR
  split
  · rename_i h
    have := ((okN_iff l true h).1 rfl).1
    unfold numB; rw [Lay.lays_len (pl2_in _ (by rw [hdN_len]; omega)), zeros_len]; exact Nat.le_refl _
  · simp
end Idn
theorem EncN_at (v : Value) (l : List (BitVec 16)) (E : Int) (B : List (BitVec 8)) (w : World) (hv : SliceV w S16 v l) (hl : l.length ≤ 1000000) (hE : numE l = E) (hB : numR l = B) :
    Calls Try.prog 30 #[v] w fun e w' => ∃ u, e = .returned (.tuple #[u, .int .i64 E]) ∧ BytesV w' u B ∧ Below w.heap.size w w' := by
  subst hE hB
  unfold numE numR
  by_cases h : okN l = true
  · rw [if_pos h, if_pos h]
    exact (EncN_ok v l w hv h).mono fun e w' ⟨g, he, ho, hw⟩ => ⟨_, he, ho.bytes, hw⟩
  · rw [if_neg h, if_neg h]
    exact (EncN_no v l w hv hl (by simpa using h)).mono fun e w' ⟨he, hw⟩ => ⟨_, he, BytesV.nil _, hw⟩
theorem rEncN_at (v : Value) (l : List (BitVec 16)) (E : Int) (B : List (BitVec 8)) (w : World) (hv : SliceV w S16 v l) (hl : l.length ≤ 1000000) (hE : numE l = E) (hB : numR l = B) :
    Calls Try.prog 31 #[v] w fun e w' => ∃ u, e = .returned (.tuple #[u, .int .i64 E]) ∧ BytesV w' u B ∧ Below w.heap.size w w' := by
  subst hE hB
  unfold numE numR
  by_cases h : okN l = true
  · rw [if_pos h, if_pos h]
    exact rEncN_ok v l w hv hl h
  · rw [if_neg h, if_neg h]
    exact (rEncN_no v l w hv hl (by simpa using h)).mono fun e w' ⟨he, hw⟩ => ⟨_, he, BytesV.nil _, hw⟩
theorem decN_len {l : List (BitVec 8)} {y : List (BitVec 16)} {e : Int} (h : decV rdN okN numB [] l = (y, e)) : y.length ≤ 2047 := by
  unfold decV at h
  split at h
  · cases h; simp
  · split at h
    · cases h; simp
    · split at h
      · cases h; rw [rdN_len]; exact manyN_le l
      · cases h; simp
set_option maxHeartbeats 6400000 in
set_option maxRecDepth 100000 in
theorem lawNumbers (v : Value) (l : List (BitVec 16)) (at' more : Int) (by' : BitVec 8) (w : World) (hv : SliceV w S16 v l) (ha : -9223372036854775808 ≤ at' ∧ at' ≤ 9223372036854775807) (hm : -9223372036854775808 ≤ more ∧ more ≤ 9223372036854775807) :
    Calls Try.prog 9 #[v, .agg #[.int .i64 at', .int .u8 (uv by'), .int .i64 more]] w fun e w' => e = .returned (.bool true) ∧ Below w.heap.size w w' := by
  have V0 := Lib.hid hv
  obtain ⟨av, c, rfl, -, hlc, hc, -⟩ := id hv
  have hm64 : l.length ≤ 9223372036854775807 := by omega
  clear hv hlc hc
  by_cases hl : l.length ≤ 2100
  · have d1 : decide ((2100 : Int) < (l.length : Int)) = false := decide_eq_false (by omega)
    have d2 : decide (2100 < l.length) = false := decide_eq_false (by omega)
    have HL1 := Lib.hid (show l.length ≤ 1000000 by omega)
    obtain ⟨W, hW⟩ : ∃ W, W = w.alloc (.cells #[.int .i64 at', .int .u8 (uv by'), .int .i64 more] 46) := ⟨_, rfl⟩
    have D := Lib.hid (show Below w.heap.size w W by rw [hW]; exact gr_alloc w _)
    have XS := Lib.hid (show W.heap[w.heap.size]? = some (.cells #[.int .i64 at', .int .u8 (uv by'), .int .i64 more] 46 (0, 0)) by rw [hW]; exact heap_alloc_new w _)
    have V := Lib.hid (V0.out.below D.out)
    have HW := Lib.hid hW
    obtain ⟨E, hE⟩ : ∃ E, numE l = E := ⟨_, rfl⟩
    obtain ⟨B, hB⟩ : ∃ B, numR l = B := ⟨_, rfl⟩
    have HE := Lib.hid hE; have HB := Lib.hid hB
    have HBL := Lib.hid (show B.length ≤ 4096 by rw [← hB]; exact numR_len l)
    have HA := Lib.hid ha; have HM := Lib.hid hm
    have hEE : (E != E) = false := by simp
    clear hW hE hB ha hm hl V0
    go_enter Try.func9, Try.ntmps9
    go_upto_region 1 with (fail)
    rw [← HW.out]
    go_upto_region 8 with (first
      | (refine wpList_load_row rfl 46 (.tmp 3) rfl w.heap.size rfl 46 _ (0, 0) _ XS.out Try.underlying46 rfl (by kernel_rfl) ?_)
      | (go_at_call 30; go_loud (refine (EncN_at _ l E B _ V.out HL1.out HE.out HB.out).mono ?_; rintro r w1 ⟨u, rfl, hu, hw⟩; replace V := Lib.hid (V.out.below hw); replace XS := Lib.hid (blk_below XS.out hw); have A := Lib.hid hu; replace D := Lib.hid (gr_tr D.out hw); clear hw hu))
      | (go_at_call 31; go_loud (refine (rEncN_at _ l E B _ V.out HL1.out HE.out HB.out).mono ?_; rintro r w2 ⟨v, rfl, hv, hw⟩; replace XS := Lib.hid (blk_below XS.out hw); replace A := Lib.hid (A.out.below hw); have A2 := Lib.hid hv; replace D := Lib.hid (gr_tr D.out hw); clear hw hv))
      | (go_at_call 14; go_loud (refine (Same_any _ _ _ _ _ A.out A2.out).mono ?_; rintro r w4 ⟨rfl, hw4⟩; subst hw4; rw [show (B == B) = true from beq_self_eq_true _]))
      | (go_at_call 19; go_loud (refine (spoil_any _ B at' more by' _ A2.out (by have := HBL.out; omega) HA.out HM.out).mono ?_; rintro r w5 ⟨bv, b, rfl, hv, hl, hw⟩; have BV := Lib.hid hv; have HL := Lib.hid (show b.length ≤ 140737488355328 by have := HBL.out; omega); replace D := Lib.hid (gr_tr D.out hw); clear hw hv hl)))
    obtain ⟨y, e, hye⟩ : ∃ y e, decV rdN okN numB [] b = (y, e) := ⟨_, _, rfl⟩
    have HYE := Lib.hid hye
    have hyl := decN_len hye
    have hee : (e != e) = false := by simp
    have hyn : ((y.length : Int) != (y.length : Int)) = false := by simp
    clear hye
    go_upto_region 12 with (first
      | (go_at_call 32; go_loud (refine (Decode_N b _ _ y e BV.out HL.out HYE.out).mono ?_; rintro r w6 ⟨v1, rfl, hs, hw⟩; obtain ⟨a1, c1, rfl, -⟩ := id hs; have S1 := Lib.hid hs; replace BV := Lib.hid (BV.out.below hw); replace D := Lib.hid (gr_tr D.out hw); clear hw hs))
      | (go_at_call 33; go_loud (refine (rDecode_N b _ _ y e BV.out HL.out HYE.out).mono ?_; rintro r w8 ⟨v2, rfl, hs, hw⟩; obtain ⟨a2, c2, rfl, -⟩ := id hs; have S2 := Lib.hid hs; replace S1 := Lib.hid (S1.out.below hw); replace D := Lib.hid (gr_tr D.out hw); clear hw hs)))
    have hy64 : (y.length : Int) ≤ 2047 := by omega
    go_wp2
    go_loopw [14] (fun i wr => ∃ k : Nat, k ≤ y.length ∧ i = .int .i64 k ∧ Below w8.heap.size w8 wr) (fun i _ => y.length - (intOf i).toNat)
    case atStart => exact ⟨0, by omega, rfl, Below.refl _ _⟩
    case round =>
      obtain ⟨k, hk, rfl, hb⟩ := hrel
      have B8 := Lib.hid hb; clear hb
      by_cases hlt : k < y.length
      · obtain ⟨x, hx⟩ : ∃ x, y[k]? = some x := ⟨_, List.getElem?_eq_getElem hlt⟩
        obtain ⟨b1, f1, e1, -, -, -, hr1⟩ := S1.out.below B8.out
        obtain ⟨b2, f2, e2, -, -, -, hr2⟩ := S2.out.below B8.out
        obtain ⟨g1, o1, ee1, cx1⟩ := (nu16_row hr1).at (i := k) (v := .int .u16 (uv x)) (by rw [nu16_get, hx]; rfl)
        obtain ⟨g2, o2, ee2, cx2⟩ := (nu16_row hr2).at (i := k) (v := .int .u16 (uv x)) (by rw [nu16_get, hx]; rfl)
        injection e1 with e3 e5 e6
        injection e2 with e4 e7 e8
        subst e6
        subst e8
        clear e5 e7
        rw [ee1] at e3
        rw [ee2] at e4
        subst e3
        subst e4
        have hxx : (uv x != uv x) = false := by simp
        clear hx hr1 hr2 ee1 ee2
        go_wp2
        go_region
        go_wp2
        go_roundw
        case rel => exact ⟨k + 1, by omega, by go_num, gr_tr B8.out (gr_drew wr)⟩
        case measure => simp [intOf]; omega
      · obtain rfl : k = y.length := by omega
        go_wp2_with (go_at_call 11; go_loud (refine (known_any _).mono ?_; rintro r wk ⟨rfl, hw⟩; have DK := Lib.hid (gr_tr (gr_tr D.out B8.out) hw); clear hw))
        go_ret
        exact ⟨rfl, DK.out⟩
  · have d1 : decide ((2100 : Int) < (l.length : Int)) = true := decide_eq_true (by omega)
    have d2 : decide (2100 < l.length) = true := decide_eq_true (by omega)
    clear hl V0
    go_enter Try.func9, Try.ntmps9
    go_wp2_with (go_at_call 11; go_loud (refine (known_any _).mono ?_; rintro r w1 ⟨rfl, hw⟩; have D := Lib.hid (gr_tr (gr_alloc w _) hw); clear hw))
    go_ret
    exact ⟨rfl, D.out⟩
end Go.Proofs.Ytccllneifkeimaa
