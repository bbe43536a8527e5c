/- The walk of DigestBursts, within its bounds. -/
import Derived.Test.YtjbgkbhpalfbiaaLaw02E
namespace Go.Proofs.Ytjbgkbhpalfbiaa
open Go.RowKit
set_option linter.unusedVariables false
set_option linter.unusedSimpArgs false

theorem one_flip {wr : World} {B0 B1 : Nat} {e : TypeId} {n gx gy cx cy q : Nat} {X Y : List Value} {vx : Value} (hx : wr.ownsRow B0 e 1 (.slice (some ⟨gx, 0, none⟩) n cx) n X) (hy : wr.ownsRow B1 e 1 (.slice (some ⟨gy, 0, none⟩) n cy) n Y) (hne : gx ≠ gy) :
    (wr.setCell ⟨gx, q, none⟩ vx).ownsRow B0 e 1 (.slice (some ⟨gx, 0, none⟩) n cx) n (X.set q vx) ∧ (wr.setCell ⟨gx, q, none⟩ vx).ownsRow B1 e 1 (.slice (some ⟨gy, 0, none⟩) n cy) n Y :=
  ⟨(hx.stored q vx).1, hy.kept (hx.stored q vx).2 (.inr (by simp [Value.ownBlock]; omega))⟩
theorem two_flip {wr : World} {B0 B1 : Nat} {e : TypeId} {n gx gy cx cy q : Nat} {X Y : List Value} {vx vy : Value} (hx : wr.ownsRow B0 e 1 (.slice (some ⟨gx, 0, none⟩) n cx) n X) (hy : wr.ownsRow B1 e 1 (.slice (some ⟨gy, 0, none⟩) n cy) n Y) (hne : gx ≠ gy) :
    ((wr.setCell ⟨gx, q, none⟩ vx).setCell ⟨gy, q, none⟩ vy).ownsRow B0 e 1 (.slice (some ⟨gx, 0, none⟩) n cx) n (X.set q vx) ∧ ((wr.setCell ⟨gx, q, none⟩ vx).setCell ⟨gy, q, none⟩ vy).ownsRow B1 e 1 (.slice (some ⟨gy, 0, none⟩) n cy) n (Y.set q vy) :=
  have h := one_flip (q := q) (vx := vx) hx hy hne
  have h2 := one_flip (q := q) (vx := vy) h.2 h.1 (fun e => hne e.symm)
  ⟨h2.2, h2.1⟩
theorem fl_skip (mk : Nat → BitVec 8) (lim : Nat) (pat : BitVec 32) (f : Nat) (b : List (BitVec 8)) (j : Nat) (h : (0 < j ∧ pat.getLsbD j = false) ∨ lim ≤ j) : Dig.fl mk lim pat f b (j + 1) = Dig.fl mk lim pat f b j := by
  rw [Dig.fl, if_neg]
  rintro ⟨h1, h2⟩
  rcases h with ⟨h3, h4⟩ | h
  · rcases h1 with h1 | h1
    · omega
    · rw [h4] at h1; cases h1
  · omega
theorem fl_flip (mk : Nat → BitVec 8) (lim : Nat) (pat : BitVec 32) (f : Nat) (b : List (BitVec 8)) (j : Nat) (h : j = 0 ∨ pat.getLsbD j = true) (hl : j < lim) : Dig.fl mk lim pat f b (j + 1) = Dig.flip mk (Dig.fl mk lim pat f b j) (f + j) := by
  rw [Dig.fl, if_pos ⟨h, hl⟩]

set_option maxHeartbeats 1600000 in
theorem lawB_in (v : Value) (b : List (BitVec 8)) (f : Nat) (pat : BitVec 32) (w : World) (hv : BytesV w v b) (h1 : b.length ≤ 500) (h2 : f < 8 * b.length) :
    Calls Try.prog 7 #[v, .int .i64 (f : Int), .int .u32 (uv pat)] w fun e w' => e = .returned (.bool true) ∧ Below w.heap.size w w' := by
  have HV := Lib.hid hv
  obtain ⟨a, c, rfl, _, _, _, _⟩ := hv
  go_enter Try.func7, Try.ntmps7
  go_wp2_with fail
  refine (Own_any _ b _ HV.out (by omega)).mono ?_
  rintro e w1 ⟨u1, rfl, hown1, hb1⟩
  obtain ⟨gx, cx, rfl, hg1, hg2⟩ := own_parts hown1 (by omega)
  have HO1 := Lib.hid hown1; clear hown1
  have HB1 := Lib.hid hb1; clear hb1
  go_wp2_with fail
  refine (Own_any _ b _ (HV.out.below HB1.out) (by omega)).mono ?_
  rintro e w2 ⟨u2, rfl, hown2, hb2⟩
  obtain ⟨gy, cy, rfl, hg3, hg4⟩ := own_parts hown2 (by omega)
  have HO2 := Lib.hid hown2; clear hown2
  have HB2 := Lib.hid hb2; clear hb2
  have hne : gx ≠ gy := by omega
  have hne' : ¬ gy = gx := by omega
  have HNE := Lib.hid hne
  go_wp2
  go_loopw [9] (fun i wr => ∃ j : Nat, j ≤ 32 ∧ f + j ≤ 8 * b.length ∧ i = .int .i64 j ∧ wr.ownsRow w.heap.size 5 1 (.slice (some ⟨gx, 0, none⟩) b.length cx) b.length (by8 (Dig.fl Dig.m32 32 pat f b j)) ∧ wr.ownsRow w1.heap.size 5 1 (.slice (some ⟨gy, 0, none⟩) b.length cy) b.length (by8 (Dig.fl Dig.m16 16 pat f b j)) ∧ Below w.heap.size w wr) (fun i _ => 32 - (intOf i).toNat)
  case atStart =>
    refine ⟨0, by omega, by omega, rfl, ?_, HO2.out, gr_tr HB1.out HB2.out⟩
    refine HO1.out.kept (row := none) ?_ ?_
    · exact ⟨HB2.out.os, HB2.out.tape, HB2.out.output, HB2.out.size, fun k hk _ => HB2.out.block k hk⟩
    · exact .inr (by simp [Value.ownBlock])
  case round =>
    obtain ⟨j, hj, hfj, rfl, hx, hy, hb⟩ := hrel
    have HX := Lib.hid hx; clear hx
    have HY := Lib.hid hy; clear hy
    have HB3 := Lib.hid hb; clear hb
    by_cases hlt : j < 32 ∧ f + j < 8 * b.length
    · obtain ⟨hj32, hjf⟩ := hlt
      obtain ⟨x, hx⟩ : ∃ x, (Dig.fl Dig.m32 32 pat f b j)[(f + j) / 8]? = some x := ⟨_, List.getElem?_eq_getElem (by rw [Dig.fl_len32 pat f b j (by omega)]; omega)⟩
      obtain ⟨y, hy⟩ : ∃ y, (Dig.fl Dig.m16 16 pat f b j)[(f + j) / 8]? = some y := ⟨_, List.getElem?_eq_getElem (by rw [Dig.fl_len16 pat f b j (by omega)]; omega)⟩
      have cx1 : wr.cell? ⟨gx, (f + j) / 8, none⟩ = some (.int .u8 (uv x)) := by rw [HX.out.cellAt _ (by omega), by8_get, hx]; rfl
      have cy1 : wr.cell? ⟨gy, (f + j) / 8, none⟩ = some (.int .u8 (uv y)) := by rw [HY.out.cellAt _ (by omega), by8_get, hy]; rfl
      have fx1 := HX.out.frozenAt ((f + j) / 8)
      have fy1 := HY.out.frozenAt ((f + j) / 8)
      have FX := Lib.hid (Dig.by8_flip Dig.m32 _ _ _ hx)
      have FY := Lib.hid (Dig.by8_flip Dig.m16 _ _ _ hy)
      clear hx hy
      have hq : ((f : Int) + (j : Int)) / 8 < (b.length : Int) := by omega
      by_cases hbit : 0 < j ∧ pat.getLsbD j = false
      · obtain ⟨hj0, hbit⟩ := hbit
        have hz := Dig.bit_zero pat j hbit
        have S32 := Lib.hid (fl_skip Dig.m32 32 pat f b j (.inl ⟨hj0, hbit⟩))
        have S16 := Lib.hid (fl_skip Dig.m16 16 pat f b j (.inl ⟨hj0, hbit⟩))
        clear hbit cx1 cy1 fx1 fy1
        go_wp2
        go_roundw
        case rel => exact ⟨j + 1, by omega, by omega, by go_num, by rw [S32.out]; exact HX.out, by rw [S16.out]; exact HY.out, HB3.out⟩
        case measure => simp [intOf]; omega
      · have hbit' : j = 0 ∨ pat.getLsbD j = true := by
          by_cases e : j = 0
          · exact .inl e
          · cases hp : pat.getLsbD j
            · exact absurd ⟨by omega, hp⟩ hbit
            · exact .inr rfl
        have S32 := Lib.hid (fl_flip Dig.m32 32 pat f b j hbit' hj32)
        have HT := Lib.hid hbit'
        have hz : 0 < j → uv (pat >>> j &&& 1#32) = 1 := fun h => Dig.bit_one pat j (hbit'.resolve_left (by omega))
        clear hbit hbit'
        by_cases h16 : j < 16
        · have S16 := Lib.hid (fl_flip Dig.m16 16 pat f b j HT.out h16)
          by_cases hj0 : 0 < j
          · replace hz := hz hj0
            go_wp2
            go_region
            all_goals (go_wp2; go_region; all_goals (go_wp2; go_roundw))
            case rel => exact ⟨j + 1, by omega, by omega, by go_num, by rw [S32.out, ← FX.out]; exact (two_flip HX.out HY.out HNE.out).1.drew.drew, by rw [S16.out, ← FY.out]; exact (two_flip HX.out HY.out HNE.out).2.drew.drew, ((HB3.out.setCell (p := ⟨gx, (f + j) / 8, none⟩) hg1 _).setCell (p := ⟨gy, (f + j) / 8, none⟩) (Nat.le_trans HB1.out.size hg3) _).drew.drew⟩
            case measure => simp [intOf]; omega
          · obtain rfl : j = 0 := by omega
            clear hz
            have hq0 : (f : Int) / 8 < (b.length : Int) := by omega
            simp only [Nat.add_zero] at cx1 cy1 fx1 fy1
            go_wp2
            go_region
            all_goals (go_wp2; go_region; all_goals (go_wp2; go_roundw))
            case rel => exact ⟨0 + 1, by omega, by omega, by go_num, by rw [S32.out, ← FX.out]; exact (two_flip HX.out HY.out HNE.out).1.drew.drew, by rw [S16.out, ← FY.out]; exact (two_flip HX.out HY.out HNE.out).2.drew.drew, ((HB3.out.setCell (p := ⟨gx, f / 8, none⟩) hg1 _).setCell (p := ⟨gy, f / 8, none⟩) (Nat.le_trans HB1.out.size hg3) _).drew.drew⟩
            case measure => simp [intOf]
        · have S16 := Lib.hid (fl_skip Dig.m16 16 pat f b j (.inr (by omega)))
          replace hz := hz (by omega)
          go_wp2
          go_region
          all_goals (go_wp2; go_roundw)
          case rel => exact ⟨j + 1, by omega, by omega, by go_num, by rw [S32.out, ← FX.out]; exact (one_flip HX.out HY.out HNE.out).1.drew, by rw [S16.out]; exact (one_flip HX.out HY.out HNE.out).2.drew, (HB3.out.setCell (p := ⟨gx, (f + j) / 8, none⟩) hg1 _).drew⟩
          case measure => simp [intOf]; omega
    · have hj0 : 0 < j := by omega
      have n32 : (Dig.crc32 (Dig.fl Dig.m32 32 pat f b j) != Dig.crc32 b) = true := bne_iff_ne.2 (Dig.fl32_ne pat f b j hfj hj0 hj)
      have n16 : (Dig.crc16 (Dig.fl Dig.m16 16 pat f b j) != Dig.crc16 b) = true := bne_iff_ne.2 (Dig.fl16_ne pat f b j hfj hj0)
      have VX := Lib.hid (BytesV.of_own (l := Dig.fl Dig.m32 32 pat f b j) (by rw [Dig.fl_len32 pat f b j hfj]; exact HX.out))
      have VY := Lib.hid (BytesV.of_own (l := Dig.fl Dig.m16 16 pat f b j) (by rw [Dig.fl_len16 pat f b j hfj]; exact HY.out))
      have L32 := Lib.hid (Dig.fl_len32 pat f b j hfj)
      have L16 := Lib.hid (Dig.fl_len16 pat f b j hfj)
      generalize Dig.fl Dig.m32 32 pat f b j = lx at *
      generalize Dig.fl Dig.m16 16 pat f b j = ly at *
      have hexit : (32 : Int) ≤ (j : Int) ∨ ((j : Int) < 32 ∧ 8 * (b.length : Int) ≤ (f : Int) + (j : Int)) := by omega
      rcases hexit with hexit | ⟨hexit, hexit2⟩
      all_goals
        go_wp2_with fail
        refine (CRC32C_any _ lx _ VX.out).mono ?_
        rintro e w3 ⟨rfl, hb3⟩
        have HB4 := Lib.hid hb3; clear hb3
        go_wp2_with fail
        refine (CRC32C_any _ b _ ((HV.out.below HB3.out).below HB4.out)).mono ?_
        rintro e w4 ⟨rfl, hb3⟩
        have HB5 := Lib.hid hb3; clear hb3
        go_wp2_with fail
        refine (CRC16_any _ ly _ ((VY.out.below HB4.out).below HB5.out)).mono ?_
        rintro e w5 ⟨rfl, hb3⟩
        have HB6 := Lib.hid hb3; clear hb3
        go_wp2_with fail
        refine (CRC16_any _ b _ ((((HV.out.below HB3.out).below HB4.out).below HB5.out).below HB6.out)).mono ?_
        rintro e w6 ⟨rfl, hb3⟩
        have HB7 := Lib.hid hb3; clear hb3
        go_wp2_with (go_at_call 10; refine (known_any _).mono ?_; rintro e w7 ⟨rfl, hb8⟩)
        go_ret
        exact ⟨rfl, gr_tr (gr_tr (gr_tr (gr_tr (gr_tr HB3.out HB4.out) HB5.out) HB6.out) HB7.out) hb8⟩
theorem lawB (v : Value) (b : List (BitVec 8)) (first : Int) (pat : BitVec 32) (w : World) (hv : BytesV w v b) (_ : -9223372036854775808 ≤ first ∧ first ≤ 9223372036854775807) :
    Calls Try.prog 7 #[v, .int .i64 first, .int .u32 (uv pat)] w fun e w' => e = .returned (.bool true) ∧ Below w.heap.size w w' := by
  by_cases h : b.length ≤ 500 ∧ 0 ≤ first ∧ first < 8 * (b.length : Int)
  · obtain ⟨f, rfl⟩ := Int.eq_ofNat_of_zero_le h.2.1
    exact lawB_in v b f pat w hv h.1 (by omega)
  · exact lawB_out v b first pat w hv (by omega)
end Go.Proofs.Ytjbgkbhpalfbiaa
