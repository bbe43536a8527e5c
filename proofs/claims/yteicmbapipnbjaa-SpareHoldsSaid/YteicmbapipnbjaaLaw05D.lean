/- The walk of SpareDecodes. -/
import Derived.Test.YteicmbapipnbjaaLaw05C
namespace Go.Proofs.Yteicmbapipnbjaa
open Go.RowKit
set_option linter.unusedVariables false
set_option linter.unusedSimpArgs false
theorem BytesV.rowOf {w : World} {a : Option Addr} {n c : Nat} {l : List (BitVec 8)} (h : BytesV w (.slice a n c) l) : Row w a (by8 l) := by
  obtain ⟨a', c', e, -, -, -, hr⟩ := h
  injection e with e1 e2 e3
  subst e1
  exact hr
namespace Sp
theorem valC_cases (d b : List (BitVec 8)) : ∃ k s q p i n, valC d b = #[.int .u8 k, .int .i64 s, .int .u64 q, .int .u64 p, .int .i64 i, .int .i64 n] := by
  unfold valC
  split
  · exact ⟨_, _, _, _, _, _, rfl⟩
  · exact ⟨_, _, _, _, _, _, rfl⟩
theorem valC_facts (d b : List (BitVec 8)) : (valC d b).size = 6 ∧ (valC d b).all (·.oneCell') = true ∧ ∀ w, (binOp .eql 25 (.agg (valC d b)) (.agg (valC d b))).run Try.prog w = .ok (.bool true) w := by
  obtain ⟨k, s, q, p, i, n, e⟩ := valC_cases d b
  rw [e]
  exact ⟨rfl, by simp [Value.oneCell'], sp_eql k s q p i n⟩
def sealOf (d b : List (BitVec 8)) : List (BitVec 8) := b.take 60 ++ Wire.le (sumOf d b) 4
theorem fk_at {b : List (BitVec 8)} {k : BitVec 8} (h : b[4]? = some k) : fk b = k := by
  unfold fk
  obtain ⟨hl, e⟩ := List.getElem?_eq_some_iff.1 h
  have e1 : (b.drop 4).take 1 = [k] := by
    rw [List.drop_eq_getElem_cons hl, e]; rfl
  rw [e1]
  have : Wire.get [k] = k.setWidth 64 := by rw [get_cons]; simp [Wire.get, Wire.acc]
  rw [this]; simp
theorem err_two (d b : List (BitVec 8)) (h : b.length = 64) : (if (Wire.get ((b.drop 60).take 4) != sumOf d b) then (10 : Int) else if vl b && (again d b == b) then 0 else 6) = err d b := by
  have t4 : (b.drop 60).take 4 = b.drop 60 := List.take_of_length_le (by simp; omega)
  rw [t4]
  unfold err
  rw [if_pos h]
  by_cases hx : Wire.get (b.drop 60) = sumOf d b
  · rw [if_pos hx, if_neg (by simp [hx])]
    have : (vl b && (again d b == b)) = good b := by
      rw [Bool.eq_iff_iff]
      constructor
      · intro hh
        simp only [Bool.and_eq_true, beq_iff_eq] at hh
        exact again_good hh.1 hh.2
      · intro hg
        have h1 := good_again h hx hg
        have h2 : vl b = true := by unfold good at hg; simp only [Bool.and_eq_true] at hg; exact hg.2
        rw [h1, h2]; simp
    rw [this]
  · rw [if_neg hx, if_pos (by simp [hx])]
end Sp
theorem rDecode5_any (v u : Value) (b d : List (BitVec 8)) (c : Array Value) (n : Int) (w : World) (hv : BytesV w v b) (hu : BytesV w u d) (hs : d.length ≤ 1000000) (hc : Sp.valC d b = c) (hn : Sp.err d b = n) :
    Calls Try.prog 17 #[v, u] w fun e w' => e = .returned (.tuple #[.agg c, .int .i64 n]) ∧ Below w.heap.size w w' := by
  by_cases h : b.length = 64
  · obtain ⟨k, hk⟩ : ∃ k, b[4]? = some k := ⟨_, List.getElem?_eq_getElem (by omega)⟩
    have fk := Sp.fk_at hk
    refine rDecode5_in v u b d (Sp.sumOf d b) _ _ _ _ _ _ k (Sp.fs b) (Sp.fi b) (Sp.fn b) n _ (Sp.vl b) (Sp.again d b == b) c w hv hu h hs rfl rfl rfl hk rfl rfl rfl rfl rfl rfl rfl rfl (get4_lt _ (by simp; omega)) (get4_lt _ (by simp; omega)) (get4_lt _ (by simp; omega)) ?_ ?_ ?_ ?_
    · unfold Sp.vl; rw [fk]; rfl
    · unfold Sp.again; rw [fk]; rfl
    · rw [Sp.err_two d b h]; exact hn
    · rw [← hc, ← hn]; unfold Sp.valC; rw [fk]; rfl
  · have he : Sp.err d b = 2 := by unfold Sp.err; rw [if_neg h]
    obtain rfl : n = 2 := hn.symm.trans he
    rw [Sp.val_bad he (by omega)] at hc
    subst hc
    exact rDecode5_len v u b w hv h
set_option maxRecDepth 8000 in
set_option maxHeartbeats 1600000 in
theorem lawDecodes (v : Value) (b : List (BitVec 8)) (u : Value) (d : List (BitVec 8)) (sd : Bool) (w : World) (hv : BytesV w v b) (hu : BytesV w u d) :
    Calls Try.prog 6 #[v, u, .bool sd] w fun e w' => e = .returned (.bool true) ∧ Below w.heap.size w w' := by
  obtain ⟨L, hL⟩ : ∃ L, b.length = L := ⟨_, rfl⟩
  obtain ⟨a0, c0, hva, -⟩ := id hv
  obtain ⟨a1, c1, hua, -⟩ := id hu
  rw [hL] at hva
  subst hva hua
  have W0 := Lib.hid hv; have V0 := Lib.hid hu; have HL0 := Lib.hid hL
  clear hv hu
  by_cases h70 : L ≤ 70
  · have hd70 : decide ((L : Int) > 70) = false := by simp; omega
    by_cases h300 : d.length ≤ 300
    · have hd300 : decide ((d.length : Int) > 300) = false := by simp; omega
      have HS := Lib.hid (show d.length ≤ 1000000 by omega)
      have HB70 := Lib.hid (show b.length ≤ 140737488355328 by omega)
      obtain ⟨b2, hb2⟩ : ∃ b2, (if sd && (L == 64) then Sp.sealOf d b else b) = b2 := ⟨_, rfl⟩
      have hl2 : b2.length = L := by
        rw [← hb2]; split
        · rename_i h
          simp only [Bool.and_eq_true, beq_iff_eq] at h
          unfold Sp.sealOf; simp [Wire.le_len]; omega
        · exact hL
      obtain ⟨cc, hcc⟩ : ∃ c, Sp.valC d b2 = c := ⟨_, rfl⟩
      obtain ⟨n, hn⟩ : ∃ n, Sp.err d b2 = n := ⟨_, rfl⟩
      obtain ⟨hsz, hall, heq⟩ := Sp.valC_facts d b2
      rw [hcc] at hsz hall heq
      have HB2 := Lib.hid hb2; have HL := Lib.hid hl2; have HCC := Lib.hid hcc; have HN := Lib.hid hn; have HSZ := Lib.hid hsz; have HALL := Lib.hid hall; have HEQ := Lib.hid heq
      clear hb2 hl2 hcc hn hsz hall heq h300 hL
      cases sd
      · obtain rfl : b = b2 := HB2.out
        go_enter Try.func6, Try.ntmps6
        go_upto_region 6 with (at_builtin; refine app_fresh rfl (.tmp 22) (.tmp 23) rfl _ rfl rfl _ b rfl W0.out HB70.out ?_; intro x w1 hx hw; rw [HL0.out] at hx; obtain ⟨a, c, rfl⟩ := own_shape hx; have X := Lib.hid hx; have B := Lib.hid hw; clear hw hx)
        have U := Lib.hid (BytesV.of_own (l := b) (by rw [HL.out]; exact X.out)); clear X
        obtain ⟨e64, he64⟩ : ∃ z, (b.length == 64) = z := ⟨_, rfl⟩
        have hL64 : ((L : Int) == 64) = e64 := by
          rw [← he64, HL.out]
          by_cases h : L = 64
          · simp [h]
          · rw [beq_eq_false_iff_ne.2 h, beq_eq_false_iff_ne.2 (by omega)]
        have HE64 := Lib.hid he64
        clear he64
        go_wp2_with (first
          | (go_at_call 15; go_loud ((with_reducible refine (Decode5_any _ _ b d cc n _ U.out (V0.out.below B.out) HS.out HCC.out HN.out).mono ?_); rintro r w6 ⟨rfl, hw⟩; replace U := Lib.hid (U.out.below hw); replace B := Lib.hid (gr_tr B.out hw); clear hw))
          | (refine wpList_store_new rfl 25 (.tmp 7) (.tmp 38) rfl cc 25 #[.int .u8 0, .int .i64 0, .int .u64 0, .int .u64 0, .int .i64 0, .int .i64 0] rfl rfl (by rw [HSZ.out]; kernel_rfl) HSZ.out.symm HALL.out ?_; intro w7 hr hw; have S7 := Lib.hid hr; replace U := Lib.hid (U.out.below hw); replace B := Lib.hid (gr_tr B.out hw); clear hr hw)
          | (go_at_call 17; go_loud ((with_reducible refine (rDecode5_any _ _ b d cc n _ U.out (V0.out.below B.out) HS.out HCC.out HN.out).mono ?_); rintro r w8 ⟨rfl, hw⟩; replace U := Lib.hid (U.out.below hw); replace S7 := Lib.hid (blk_below S7.out hw); replace B := Lib.hid (gr_tr B.out hw); clear hw))
          | (refine wpList_store_new rfl 25 (.tmp 9) (.tmp 44) rfl cc 25 #[.int .u8 0, .int .i64 0, .int .u64 0, .int .u64 0, .int .i64 0, .int .i64 0] rfl rfl (by rw [HSZ.out]; kernel_rfl) HSZ.out.symm HALL.out ?_; intro w9 hr hw; have S9 := Lib.hid hr; replace U := Lib.hid (U.out.below hw); replace S7 := Lib.hid (blk_below S7.out hw); replace B := Lib.hid (gr_tr B.out hw); clear hr hw))
        go_loop [11, 12] (fun bl i => ∃ (m : Nat) (z : Bool), m ≤ L ∧ i = .int .i64 m ∧ bl = .bool z ∧ Hid ((b.length == 64 && !(b.take m).any notFF) = z)) (fun _ i => L - (intOf i).toNat)
        case atStart => exact ⟨0, e64, by omega, rfl, rfl, Lib.hid (by rw [HE64.out]; simp)⟩
        case round =>
          obtain ⟨m, z, hm, rfl, rfl, hz⟩ := hrel
          by_cases hlt : m < L
          · obtain ⟨x, hx⟩ : ∃ x, b[m]? = some x := ⟨_, List.getElem?_eq_getElem (by rw [HL.out]; exact hlt)⟩
            obtain ⟨g, o, rfl, hcell⟩ := U.out.rowOf.at (i := m) (v := .int .u8 (uv x)) (by rw [by8_get, hx]; rfl)
            have HT := Lib.hid (any_take notFF b m x hx)
            clear hx
            cases z
            · go_wp2
              go_round
              case rel => exact ⟨m + 1, false, by omega, by go_num, rfl, Lib.hid (by
                rw [HT.out]
                exact (by decide : ∀ A B C : Bool, (A && !B) = false → (A && !(B || C)) = false) _ _ _ hz.out)⟩
              case measure => simp [intOf]; omega
            · obtain ⟨y, hy⟩ : ∃ y, notFF x = y := ⟨_, rfl⟩
              have HY := Lib.hid hy
              unfold notFF at hy
              cases y
              · have hy1 : (uv x == 255) = true := by simpa using hy
                clear hy
                go_wp2
                go_round
                case rel => exact ⟨m + 1, true, by omega, by go_num, rfl, Lib.hid (by
                  have h := hz.out
                  rw [HT.out, HY.out, Bool.or_false]
                  exact h)⟩
                case measure => simp [intOf]; omega
              · have hy1 : (uv x == 255) = false := by simpa using hy
                clear hy
                go_wp2
                go_round
                case rel => exact ⟨m + 1, false, by omega, by go_num, rfl, Lib.hid (by
                  rw [HT.out, HY.out]; simp)⟩
                case measure => simp [intOf]; omega
          · obtain rfl : m = L := by omega
            have HB := Lib.hid (show (b.length == 64 && !b.any notFF) = z by have h := hz.out; rw [List.take_of_length_le (by rw [HL.out]; omega)] at h; exact h)
            have hq := HEQ.out
            go_wp2_with (first
              | (refine wpList_load_row rfl 25 (.tmp 7) rfl w6.heap.size rfl 25 _ (0, 0) _ S7.out Try.underlying25 rfl (by rw [HSZ.out]; kernel_rfl) ?_)
              | (refine wpList_load_row rfl 25 (.tmp 9) rfl w8.heap.size rfl 25 _ (0, 0) _ S9.out Try.underlying25 rfl (by rw [HSZ.out]; kernel_rfl) ?_)
              | (go_at_call 12; go_loud (refine (num5_any _ _).mono ?_; rintro r w' ⟨rfl, rfl⟩))
              | (go_at_call 18; go_loud (refine (Blank_any _ b z _ U.out HB.out).mono ?_; rintro r w' ⟨rfl, rfl⟩))
              | (go_at_call 8; go_loud ((with_reducible refine (works5_any _).mono ?_); rintro r w9 ⟨rfl, hw⟩; replace B := Lib.hid (gr_tr B.out hw); clear hw)))
            go_ret
            exact ⟨rfl, B.out⟩
      · by_cases h64 : L = 64
        · have hb2 : Sp.sealOf d b = b2 := by have := HB2.out; rw [if_pos (by simp [h64])] at this; exact this
          have h64' : ((L : Int) == 64) = true := by simp; omega
          have H64 := Lib.hid h64; clear h64
          have HSE := Lib.hid hb2; clear hb2
          go_enter Try.func6, Try.ntmps6
          go_upto_region 6 with (first
            | (at_builtin; refine app_fresh rfl (.tmp 22) (.tmp 23) rfl _ rfl rfl _ b rfl W0.out HB70.out ?_; intro x w1 hx hw; rw [HL0.out] at hx; obtain ⟨a, c, rfl⟩ := own_shape hx; have X := Lib.hid hx; have B := Lib.hid hw; clear hw hx)
            | (go_at_call 16; go_loud (refine (Seal_own _ _ w.heap.size b d (Sp.sumOf d b) _ (by rw [HL0.out]; exact X.out) (by rw [HL0.out]; exact H64.out) (V0.out.below B.out) HS.out rfl).mono ?_; rintro r w5 ⟨rfl, hx, hc⟩; rw [HL0.out] at hx; replace hx := (show (b.take 60 ++ Wire.le (Sp.sumOf d b) 4) = b2 from HSE.out) ▸ hx; have hlo := X.out.lt; replace X := Lib.hid hx; replace B := Lib.hid (Chg.new hc B.out (fun k hk => (hlo k hk).1)); clear hx hc hlo)))
          clear h64'
          have U := Lib.hid (BytesV.of_own (l := b2) (by rw [HL.out]; exact X.out)); clear X
          obtain ⟨e64, he64⟩ : ∃ z, (b2.length == 64) = z := ⟨_, rfl⟩
          have hL64 : ((L : Int) == 64) = e64 := by
            rw [← he64, HL.out]
            by_cases h : L = 64
            · simp [h]
            · rw [beq_eq_false_iff_ne.2 h, beq_eq_false_iff_ne.2 (by omega)]
          have HE64 := Lib.hid he64
          clear he64
          go_wp2_with (first
            | (go_at_call 15; go_loud ((with_reducible refine (Decode5_any _ _ b2 d cc n _ U.out (V0.out.below B.out) HS.out HCC.out HN.out).mono ?_); rintro r w6 ⟨rfl, hw⟩; replace U := Lib.hid (U.out.below hw); replace B := Lib.hid (gr_tr B.out hw); clear hw))
            | (refine wpList_store_new rfl 25 (.tmp 7) (.tmp 38) rfl cc 25 #[.int .u8 0, .int .i64 0, .int .u64 0, .int .u64 0, .int .i64 0, .int .i64 0] rfl rfl (by rw [HSZ.out]; kernel_rfl) HSZ.out.symm HALL.out ?_; intro w7 hr hw; have S7 := Lib.hid hr; replace U := Lib.hid (U.out.below hw); replace B := Lib.hid (gr_tr B.out hw); clear hr hw)
            | (go_at_call 17; go_loud ((with_reducible refine (rDecode5_any _ _ b2 d cc n _ U.out (V0.out.below B.out) HS.out HCC.out HN.out).mono ?_); rintro r w8 ⟨rfl, hw⟩; replace U := Lib.hid (U.out.below hw); replace S7 := Lib.hid (blk_below S7.out hw); replace B := Lib.hid (gr_tr B.out hw); clear hw))
            | (refine wpList_store_new rfl 25 (.tmp 9) (.tmp 44) rfl cc 25 #[.int .u8 0, .int .i64 0, .int .u64 0, .int .u64 0, .int .i64 0, .int .i64 0] rfl rfl (by rw [HSZ.out]; kernel_rfl) HSZ.out.symm HALL.out ?_; intro w9 hr hw; have S9 := Lib.hid hr; replace U := Lib.hid (U.out.below hw); replace S7 := Lib.hid (blk_below S7.out hw); replace B := Lib.hid (gr_tr B.out hw); clear hr hw))
          go_loop [11, 12] (fun bl i => ∃ (m : Nat) (z : Bool), m ≤ L ∧ i = .int .i64 m ∧ bl = .bool z ∧ Hid ((b2.length == 64 && !(b2.take m).any notFF) = z)) (fun _ i => L - (intOf i).toNat)
          case atStart => exact ⟨0, e64, by omega, rfl, rfl, Lib.hid (by rw [HE64.out]; simp)⟩
          case round =>
            obtain ⟨m, z, hm, rfl, rfl, hz⟩ := hrel
            by_cases hlt : m < L
            · obtain ⟨x, hx⟩ : ∃ x, b2[m]? = some x := ⟨_, List.getElem?_eq_getElem (by rw [HL.out]; exact hlt)⟩
              obtain ⟨g, o, rfl, hcell⟩ := U.out.rowOf.at (i := m) (v := .int .u8 (uv x)) (by rw [by8_get, hx]; rfl)
              have HT := Lib.hid (any_take notFF b2 m x hx)
              clear hx
              cases z
              · go_wp2
                go_round
                case rel => exact ⟨m + 1, false, by omega, by go_num, rfl, Lib.hid (by
                  rw [HT.out]
                  exact (by decide : ∀ A B C : Bool, (A && !B) = false → (A && !(B || C)) = false) _ _ _ hz.out)⟩
                case measure => simp [intOf]; omega
              · obtain ⟨y, hy⟩ : ∃ y, notFF x = y := ⟨_, rfl⟩
                have HY := Lib.hid hy
                unfold notFF at hy
                cases y
                · have hy1 : (uv x == 255) = true := by simpa using hy
                  clear hy
                  go_wp2
                  go_round
                  case rel => exact ⟨m + 1, true, by omega, by go_num, rfl, Lib.hid (by
                    have h := hz.out
                    rw [HT.out, HY.out, Bool.or_false]
                    exact h)⟩
                  case measure => simp [intOf]; omega
                · have hy1 : (uv x == 255) = false := by simpa using hy
                  clear hy
                  go_wp2
                  go_round
                  case rel => exact ⟨m + 1, false, by omega, by go_num, rfl, Lib.hid (by
                    rw [HT.out, HY.out]; simp)⟩
                  case measure => simp [intOf]; omega
            · obtain rfl : m = L := by omega
              have HB := Lib.hid (show (b2.length == 64 && !b2.any notFF) = z by have h := hz.out; rw [List.take_of_length_le (by rw [HL.out]; omega)] at h; exact h)
              have hq := HEQ.out
              go_wp2_with (first
                | (refine wpList_load_row rfl 25 (.tmp 7) rfl w6.heap.size rfl 25 _ (0, 0) _ S7.out Try.underlying25 rfl (by rw [HSZ.out]; kernel_rfl) ?_)
                | (refine wpList_load_row rfl 25 (.tmp 9) rfl w8.heap.size rfl 25 _ (0, 0) _ S9.out Try.underlying25 rfl (by rw [HSZ.out]; kernel_rfl) ?_)
                | (go_at_call 12; go_loud (refine (num5_any _ _).mono ?_; rintro r w' ⟨rfl, rfl⟩))
                | (go_at_call 18; go_loud (refine (Blank_any _ b2 z _ U.out HB.out).mono ?_; rintro r w' ⟨rfl, rfl⟩))
                | (go_at_call 8; go_loud ((with_reducible refine (works5_any _).mono ?_); rintro r w9 ⟨rfl, hw⟩; replace B := Lib.hid (gr_tr B.out hw); clear hw)))
              go_ret
              exact ⟨rfl, B.out⟩
        · obtain rfl : b = b2 := by have := HB2.out; rw [if_neg (by simp [h64])] at this; exact this
          have h64' : ((L : Int) == 64) = false := by simp; omega
          clear h64
          go_enter Try.func6, Try.ntmps6
          go_upto_region 6 with (at_builtin; refine app_fresh rfl (.tmp 22) (.tmp 23) rfl _ rfl rfl _ b rfl W0.out HB70.out ?_; intro x w1 hx hw; rw [HL0.out] at hx; obtain ⟨a, c, rfl⟩ := own_shape hx; have X := Lib.hid hx; have B := Lib.hid hw; clear hw hx)
          clear h64'
          have U := Lib.hid (BytesV.of_own (l := b) (by rw [HL.out]; exact X.out)); clear X
          obtain ⟨e64, he64⟩ : ∃ z, (b.length == 64) = z := ⟨_, rfl⟩
          have hL64 : ((L : Int) == 64) = e64 := by
            rw [← he64, HL.out]
            by_cases h : L = 64
            · simp [h]
            · rw [beq_eq_false_iff_ne.2 h, beq_eq_false_iff_ne.2 (by omega)]
          have HE64 := Lib.hid he64
          clear he64
          go_wp2_with (first
            | (go_at_call 15; go_loud ((with_reducible refine (Decode5_any _ _ b d cc n _ U.out (V0.out.below B.out) HS.out HCC.out HN.out).mono ?_); rintro r w6 ⟨rfl, hw⟩; replace U := Lib.hid (U.out.below hw); replace B := Lib.hid (gr_tr B.out hw); clear hw))
            | (refine wpList_store_new rfl 25 (.tmp 7) (.tmp 38) rfl cc 25 #[.int .u8 0, .int .i64 0, .int .u64 0, .int .u64 0, .int .i64 0, .int .i64 0] rfl rfl (by rw [HSZ.out]; kernel_rfl) HSZ.out.symm HALL.out ?_; intro w7 hr hw; have S7 := Lib.hid hr; replace U := Lib.hid (U.out.below hw); replace B := Lib.hid (gr_tr B.out hw); clear hr hw)
            | (go_at_call 17; go_loud ((with_reducible refine (rDecode5_any _ _ b d cc n _ U.out (V0.out.below B.out) HS.out HCC.out HN.out).mono ?_); rintro r w8 ⟨rfl, hw⟩; replace U := Lib.hid (U.out.below hw); replace S7 := Lib.hid (blk_below S7.out hw); replace B := Lib.hid (gr_tr B.out hw); clear hw))
            | (refine wpList_store_new rfl 25 (.tmp 9) (.tmp 44) rfl cc 25 #[.int .u8 0, .int .i64 0, .int .u64 0, .int .u64 0, .int .i64 0, .int .i64 0] rfl rfl (by rw [HSZ.out]; kernel_rfl) HSZ.out.symm HALL.out ?_; intro w9 hr hw; have S9 := Lib.hid hr; replace U := Lib.hid (U.out.below hw); replace S7 := Lib.hid (blk_below S7.out hw); replace B := Lib.hid (gr_tr B.out hw); clear hr hw))
          go_loop [11, 12] (fun bl i => ∃ (m : Nat) (z : Bool), m ≤ L ∧ i = .int .i64 m ∧ bl = .bool z ∧ Hid ((b.length == 64 && !(b.take m).any notFF) = z)) (fun _ i => L - (intOf i).toNat)
          case atStart => exact ⟨0, e64, by omega, rfl, rfl, Lib.hid (by rw [HE64.out]; simp)⟩
          case round =>
            obtain ⟨m, z, hm, rfl, rfl, hz⟩ := hrel
            by_cases hlt : m < L
            · obtain ⟨x, hx⟩ : ∃ x, b[m]? = some x := ⟨_, List.getElem?_eq_getElem (by rw [HL.out]; exact hlt)⟩
              obtain ⟨g, o, rfl, hcell⟩ := U.out.rowOf.at (i := m) (v := .int .u8 (uv x)) (by rw [by8_get, hx]; rfl)
              have HT := Lib.hid (any_take notFF b m x hx)
              clear hx
              cases z
              · go_wp2
                go_round
                case rel => exact ⟨m + 1, false, by omega, by go_num, rfl, Lib.hid (by
                  rw [HT.out]
                  exact (by decide : ∀ A B C : Bool, (A && !B) = false → (A && !(B || C)) = false) _ _ _ hz.out)⟩
                case measure => simp [intOf]; omega
              · obtain ⟨y, hy⟩ : ∃ y, notFF x = y := ⟨_, rfl⟩
                have HY := Lib.hid hy
                unfold notFF at hy
                cases y
                · have hy1 : (uv x == 255) = true := by simpa using hy
                  clear hy
                  go_wp2
                  go_round
                  case rel => exact ⟨m + 1, true, by omega, by go_num, rfl, Lib.hid (by
                    have h := hz.out
                    rw [HT.out, HY.out, Bool.or_false]
                    exact h)⟩
                  case measure => simp [intOf]; omega
                · have hy1 : (uv x == 255) = false := by simpa using hy
                  clear hy
                  go_wp2
                  go_round
                  case rel => exact ⟨m + 1, false, by omega, by go_num, rfl, Lib.hid (by
                    rw [HT.out, HY.out]; simp)⟩
                  case measure => simp [intOf]; omega
            · obtain rfl : m = L := by omega
              have HB := Lib.hid (show (b.length == 64 && !b.any notFF) = z by have h := hz.out; rw [List.take_of_length_le (by rw [HL.out]; omega)] at h; exact h)
              have hq := HEQ.out
              go_wp2_with (first
                | (refine wpList_load_row rfl 25 (.tmp 7) rfl w6.heap.size rfl 25 _ (0, 0) _ S7.out Try.underlying25 rfl (by rw [HSZ.out]; kernel_rfl) ?_)
                | (refine wpList_load_row rfl 25 (.tmp 9) rfl w8.heap.size rfl 25 _ (0, 0) _ S9.out Try.underlying25 rfl (by rw [HSZ.out]; kernel_rfl) ?_)
                | (go_at_call 12; go_loud (refine (num5_any _ _).mono ?_; rintro r w' ⟨rfl, rfl⟩))
                | (go_at_call 18; go_loud (refine (Blank_any _ b z _ U.out HB.out).mono ?_; rintro r w' ⟨rfl, rfl⟩))
                | (go_at_call 8; go_loud ((with_reducible refine (works5_any _).mono ?_); rintro r w9 ⟨rfl, hw⟩; replace B := Lib.hid (gr_tr B.out hw); clear hw)))
              go_ret
              exact ⟨rfl, B.out⟩
    · have hd300 : decide ((d.length : Int) > 300) = true := by simp; omega
      clear h300 h70
      have B := Lib.hid (Below.refl w.heap.size w)
      go_enter Try.func6, Try.ntmps6
      go_wp2_with (go_at_call 8; go_loud ((with_reducible refine (works5_any _).mono ?_); rintro r w9 ⟨rfl, hw⟩; replace B := Lib.hid (gr_tr B.out hw); clear hw))
      go_ret
      exact ⟨rfl, B.out⟩
  · have hd70 : decide ((L : Int) > 70) = true := by simp; omega
    clear h70
    have B := Lib.hid (Below.refl w.heap.size w)
    go_enter Try.func6, Try.ntmps6
    go_wp2_with (go_at_call 8; go_loud ((with_reducible refine (works5_any _).mono ?_); rintro r w9 ⟨rfl, hw⟩; replace B := Lib.hid (gr_tr B.out hw); clear hw))
    go_ret
    exact ⟨rfl, B.out⟩
end Go.Proofs.Yteicmbapipnbjaa
