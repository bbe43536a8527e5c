/- The law IdentifyWalks: the walk. -/
import Derived.Test.YtccllneifkeimaaLaw24C
import Derived.Test.YtccllneifkeimaaWalkMath
namespace Go.Proofs.Ytccllneifkeimaa
open Go.RowKit Idn Rise
set_option linter.unusedVariables false
set_option linter.unusedSimpArgs false
theorem w32Ok : ElemOk Try.prog 35 23 (.int .u32 0) 1 4 :=
  ⟨Try.underlying35, info_parts (by kernel_rfl), rfl, by decide⟩
theorem own_base_ge {w : World} {base n : Nat} {e : TypeId} {size : Nat} {v : Value} {xs : List Value} (h : w.ownsRow base e size v n xs) : ∀ k, v.ownBlock = some k → base ≤ k := by
  obtain ⟨h1, h2⟩ := h
  rcases h2 with ⟨rfl, _⟩ | ⟨g, cap, cur, rfl, hg, _⟩
  · intro k hk; cases hk
  · intro k hk; simp [Value.ownBlock] at hk; omega
/-- An owned slice of 32-bit numbers. -/
def Own32 (w : World) (base : Nat) (v : Value) (l : List (BitVec 32)) : Prop := w.ownsRow base 23 1 v l.length (nu32 l)
theorem Own32.slice {w : World} {base : Nat} {v : Value} {l : List (BitVec 32)} (h : Own32 w base v l) : SliceV w (fun y : BitVec 32 => [Value.int .u32 (uv y)]) v l := by
  obtain ⟨h1, h2⟩ := id h
  rcases h2 with ⟨e1, e2⟩ | ⟨g, cap, cur, hv, hg, hh, r1, r2, r3, r4⟩
  · have : l = [] := List.length_eq_zero_iff.1 e2
    subst this; subst e1; exact ⟨none, 0, rfl, fun _ => rfl, by simp, by simp, .inl rfl⟩
  · subst hv
    exact ⟨_, cap, rfl, (by simp), r1, r2, by rw [flat_one]; exact Row.of_own ⟨h1, .inr ⟨g, cap, cur, rfl, hg, hh, r1, r2, r3, r4⟩⟩⟩
theorem Own32.nil (w : World) (base : Nat) : Own32 w base (.slice none 0 0) [] := World.ownsRow_nil _ _ _ _
theorem row32_new (w : World) (y : BitVec 32) : Row (w.alloc (.cells #[.int .u32 (uv y)] 23)) (some ⟨w.heap.size, 0, none⟩) [.int .u32 (uv y)] := by
  refine .inr ⟨w.heap.size, 0, rfl, fun i hi => ?_⟩
  rw [cell_of_row _ _ _ _ _ _ (heap_alloc_new w _)]; simp
set_option maxHeartbeats 3200000 in
set_option maxRecDepth 100000 in
theorem lawWalks_no (a b : Int) (w : World) (h : a < 0 ∨ 3000 < a ∨ b < 1 ∨ 1000 < b) :
    Calls Try.prog 5 #[.int .i64 a, .int .i64 b] w fun e w' => e = .returned (.bool true) ∧ Below w.heap.size w w' := by
  by_cases p1 : a < 0
  · go_enter Try.func5, Try.ntmps5
    go_wp2_with (go_at_call 11; go_loud (refine (known_any _).mono ?_; rintro r w1 ⟨rfl, hw⟩; have D := Lib.hid hw; clear hw))
    go_ret
    exact ⟨rfl, D.out⟩
  · have q1 : decide (a < 0) = false := decide_eq_false p1
    by_cases p2 : 3000 < a
    · go_enter Try.func5, Try.ntmps5
      go_wp2_with (go_at_call 11; go_loud (refine (known_any _).mono ?_; rintro r w1 ⟨rfl, hw⟩; have D := Lib.hid hw; clear hw))
      go_ret
      exact ⟨rfl, D.out⟩
    · have q2 : decide (3000 < a) = false := decide_eq_false p2
      by_cases p3 : b < 1
      · go_enter Try.func5, Try.ntmps5
        go_wp2_with (go_at_call 11; go_loud (refine (known_any _).mono ?_; rintro r w1 ⟨rfl, hw⟩; have D := Lib.hid hw; clear hw))
        go_ret
        exact ⟨rfl, D.out⟩
      · have q3 : decide (b < 1) = false := decide_eq_false p3
        have p4 : 1000 < b := by omega
        go_enter Try.func5, Try.ntmps5
        go_wp2_with (go_at_call 11; go_loud (refine (known_any _).mono ?_; rintro r w1 ⟨rfl, hw⟩; have D := Lib.hid hw; clear hw))
        go_ret
        exact ⟨rfl, D.out⟩
set_option maxHeartbeats 3200000 in
set_option maxRecDepth 100000 in
theorem lawWalks_yes (c d : Nat) (w : World) (hc : c ≤ 3000) (hd : d ≤ 1000) (h1 : 1 ≤ d) :
    Calls Try.prog 5 #[.int .i64 c, .int .i64 d] w fun e w' => e = .returned (.bool true) ∧ Below w.heap.size w w' := by
  have q1 : decide ((c : Int) < 0) = false := decide_eq_false (by omega)
  have q2 : decide ((3000 : Int) < c) = false := decide_eq_false (by omega)
  have q2' : decide (3000 < c) = false := decide_eq_false (by omega)
  have q3 : decide ((d : Int) < 1) = false := decide_eq_false (by omega)
  have q4 : decide ((1000 : Int) < d) = false := decide_eq_false (by omega)
  have q4' : decide (1000 < d) = false := decide_eq_false (by omega)
  go_enter Try.func5, Try.ntmps5
  go_upto_region 5 with (fail)
  go_loopw [5, 6] (fun v i wr => ∃ k : Nat, k ≤ c ∧ i = .int .i64 k ∧ Own32 wr w.heap.size v (lw k d) ∧ Below w.heap.size w wr) (fun _ i _ => c - (intOf i).toNat)
  case atStart => exact ⟨0, by omega, rfl, Own32.nil _ _, Below.refl _ _⟩
  case round =>
    obtain ⟨k, hk, rfl, ho, hb⟩ := hrel
    have OW := Lib.hid ho; have B := Lib.hid hb; clear ho hb
    by_cases hlt : k < c
    · have m1 := mul_small c d (k + 1) hc hd (by omega)
      have ew : wrap64 (((k : Int) + 1) * (d : Int)) = (((k + 1) * d : Nat) : Int) := by
        rw [show ((k : Int) + 1) * (d : Int) = (((k + 1) * d : Nat) : Int) by push_cast; rfl]
        exact IntWalk.wrap64_in _ (by omega)
      have eu : uv (BitVec.ofInt 32 (wrap64 (((k : Int) + 1) * (d : Int)))) = uv (mul1 d k) := by rw [ew]; rfl
      have EU := Lib.hid eu; clear ew eu
      have HK := Lib.hid hlt
      go_wp2_with (at_builtin; go_loud (refine app_law w32Ok rfl (.tmp 34) (.tmp 40) rfl w.heap.size u5 (lw k d).length (nu32 (lw k d)) rfl (own_below OW.out (gr_alloc wr _)) (some ⟨wr.heap.size, 0, none⟩) 1 1 [.int .u32 (uv (BitVec.ofInt 32 (wrap64 (((k : Int) + 1) * (d : Int)))))] rfl (by intro h; cases h) (Nat.le_refl _) (row32_new wr _) rfl (nu32_one [BitVec.ofInt 32 (wrap64 (((k : Int) + 1) * (d : Int)))]) (by rw [lw_len]; omega) (by rw [lw_len]; omega) (Nat.le_trans B.out.size (gr_alloc wr _).size) ?_; intro v3 w3 hown hgrow _; have O3 := Lib.hid (show Own32 w3 w.heap.size v3 (lw (k + 1) d) by unfold Own32; rw [lw_snoc, List.length_append, List.length_singleton]; unfold nu32 at hown ⊢; rw [EU.out] at hown; rw [List.map_append]; exact hown); have B3 := Lib.hid ((B.out.trans ((gr_alloc wr (.cells #[.int .u32 (uv (BitVec.ofInt 32 (wrap64 (((k : Int) + 1) * (d : Int)))))] 23)).mono B.out.size)).grown hgrow (Nat.le_trans B.out.size (gr_alloc wr _).size) (own_base_ge OW.out)); clear hown hgrow))
      go_roundw
      case rel => exact ⟨k + 1, by omega, by go_num, O3.out, B3.out⟩
      case measure => simp [intOf]; omega
    · obtain rfl : k = c := by omega
      have LS := Lib.hid OW.out.slice
      obtain ⟨av, cv, ev, -, hlc, hcm, hrow⟩ := id LS.out
      rw [lw_len] at ev hlc
      subst ev
      have ROW := Lib.hid (nu32_row hrow)
      clear hrow OW
      go_upto_region 10 with (fail)
      go_loopw [7, 8, 9, 10, 11, 12, 13] (fun ab n t _ _ _ _ wx => ∃ (tt m : Nat), tt ≤ 5 ∧ t = .int .i64 tt ∧ m = min k (1024 * tt) ∧ n = .int .i64 m ∧ ab = .int .u32 (uv (BitVec.ofNat 32 (m * d))) ∧ SliceV wx (fun y : BitVec 32 => [Value.int .u32 (uv y)]) (.slice av k cv) (lw k d) ∧ Hid (Row wx av (nu32 (lw k d))) ∧ Below w.heap.size w wx) (fun _ _ t _ _ _ _ _ => 5 - (intOf t).toNat)
      case atStart => exact ⟨0, 0, by omega, rfl, by omega, rfl, by rw [Nat.zero_mul]; rfl, LS.out, ROW, B.out⟩
      case round =>
        obtain ⟨tt, m, ht, rfl, hm, rfl, rfl, hl, RW2, hb2⟩ := hrel
        have V2 := Lib.hid hl; have B2 := Lib.hid hb2; have HM := Lib.hid hm; clear hl hb2 hm
        by_cases htt : tt < 5
        · go_upto_region 16 with (go_at_call 15; go_loud (refine (Act_ok _ (lw k d) (BitVec.ofNat 32 (m * d)) _ V2.out (by rw [lw_len]; omega) (lw_ok k d hc hd h1)).mono ?_; rintro r w3 ⟨g, rfl, ho3, hw3⟩; have O3 := Lib.hid ho3; have V3 := Lib.hid (V2.out.below hw3); have RW3 := Lib.hid (RW2.out.below hw3); have B3 := Lib.hid (gr_tr B2.out hw3); clear ho3 hw3))
          have hmk : m ≤ k := by have := HM.out; omega
          obtain ⟨A, hA⟩ : ∃ A, actB (lw k d) (BitVec.ofNat 32 (m * d)) = A := ⟨_, rfl⟩
          have hY : A = Lay.lays zeros (places4 (((lw k d).drop m).take 1024)) := by rw [← hA]; unfold actB; rw [lw_len, sel_lw k d m hc hd h1 hmk]
          have hyl : (((lw k d).drop m).take 1024).length = min 1024 (k - m) := sel_lw_len k d m
          have HIN := Lib.hid (show ∀ j, j < min 1024 (k - m) → ∀ q, q < 4 → A[4 * j + q]? = some ((((mul1 d (m + j)).setWidth 64) >>> (8 * q)).setWidth 8) from fun j hj q hq => by rw [hY]; exact bytes_at _ (by omega) j q _ (sel_lw_get k d m j hj) hq)
          have HOUT := Lib.hid (show ∀ j, min 1024 (k - m) ≤ j → j < 1024 → ∀ q, q < 4 → A[4 * j + q]? = some 0#8 from fun j hj hj2 q hq => by rw [hY]; exact bytes_past _ (by omega) j q (by omega) hj2 hq)
          rw [hA] at O3
          clear hA hY hyl
          go_loopw [7, 8, 12, 13] (fun ab n i _ wy => ∃ j : Nat, j ≤ 1024 ∧ j ≤ k - m ∧ i = .int .i64 j ∧ n = .int .i64 ((m + j : Nat) : Int) ∧ ab = .int .u32 (uv (BitVec.ofNat 32 ((m + j) * d))) ∧ Below w3.heap.size w3 wy) (fun _ _ i _ _ => 1024 - (intOf i).toNat)
          case atStart => exact ⟨0, by omega, by omega, rfl, rfl, rfl, Below.refl _ _⟩
          case round =>
            obtain ⟨j, hj, hjk, rfl, rfl, rfl, hb4⟩ := hrel
            have B4 := Lib.hid hb4; clear hb4
            by_cases hj2 : j < 1024
            · go_upto_region 18 with (fail)
              by_cases hin : j < min 1024 (k - m)
              · obtain ⟨y, hy⟩ : ∃ y, mul1 d (m + j) = y := ⟨_, rfl⟩
                have h0 := HIN.out j hin 0 (by omega); have h1' := HIN.out j hin 1 (by omega); have h2' := HIN.out j hin 2 (by omega); have h3' := HIN.out j hin 3 (by omega)
                rw [hy] at h0 h1' h2' h3'
                have er := rd4_le y
                obtain ⟨b0, e0⟩ : ∃ b, ((y.setWidth 64) >>> (8 * 0)).setWidth 8 = b := ⟨_, rfl⟩
                obtain ⟨b1, e1⟩ : ∃ b, ((y.setWidth 64) >>> (8 * 1)).setWidth 8 = b := ⟨_, rfl⟩
                obtain ⟨b2, e2⟩ : ∃ b, ((y.setWidth 64) >>> (8 * 2)).setWidth 8 = b := ⟨_, rfl⟩
                obtain ⟨b3, e3⟩ : ∃ b, ((y.setWidth 64) >>> (8 * 3)).setWidth 8 = b := ⟨_, rfl⟩
                rw [e0] at h0 er; rw [e1] at h1' er; rw [e2] at h2' er; rw [e3] at h3' er
                have BV := (O3.out.bytes.below B4.out)
                have c0 := BV.cellAt h0; have c1 := BV.cellAt h1'; have c2 := BV.cellAt h2'; have c3 := BV.cellAt h3'
                rw [Nat.zero_add] at c0 c1 c2 c3
                rw [Nat.add_zero] at c0
                clear h0 h1' h2' h3' e0 e1 e2 e3 BV
                have ER := Lib.hid er; clear er
                go_region
                have ER2 : BitVec.setWidth 32 b0 ||| BitVec.setWidth 32 b1 <<< 8 ||| BitVec.setWidth 32 b2 <<< 16 ||| BitVec.setWidth 32 b3 <<< 24 = y := ER.out
                rw [ER2]
                have hlen := lw_get k d (m + j) (by omega)
                rw [hy] at hlen
                obtain ⟨g5, o5, rfl, cx⟩ := (RW3.out.below B4.out).at (i := m + j) (v := .int .u32 (uv y)) (by rw [nu32_get, hlen]; rfl)
                have m1 := mul_small k d (m + j + 1) hc hd (by omega)
                have hy0 : (uv y == 0) = false := by
                  rw [← hy]; unfold mul1; rw [uv_ofNat _ (by omega)]
                  have : 1 ≤ (m + j + 1) * d := Nat.mul_pos (by omega) h1
                  simp; omega
                have hyy : (uv y == uv y) = true := beq_self_eq_true _
                have hnk : decide ((k : Int) ≤ ((m + j : Nat) : Int)) = false := decide_eq_false (by omega)
                have HL := Lib.hid hlen; have HY := Lib.hid hy; clear hlen hy
                go_wp2
                go_roundw
                case rel => exact ⟨j + 1, by omega, by omega, by go_num, by (have : ((m : Int) + (j : Int) + 1) = ((m + (j + 1) : Nat) : Int) := by omega); rw [this], by rw [← HY.out]; rfl, gr_tr B4.out (gr_drew wr)⟩
                case measure => simp [intOf]; omega
              · have hjz : j = k - m := by omega
                have h0 := HOUT.out j (by omega) hj2 0 (by omega); have h1' := HOUT.out j (by omega) hj2 1 (by omega); have h2' := HOUT.out j (by omega) hj2 2 (by omega); have h3' := HOUT.out j (by omega) hj2 3 (by omega)
                have BV := (O3.out.bytes.below B4.out)
                have c0 := BV.cellAt h0; have c1 := BV.cellAt h1'; have c2 := BV.cellAt h2'; have c3 := BV.cellAt h3'
                rw [Nat.zero_add] at c0 c1 c2 c3
                rw [Nat.add_zero] at c0
                clear h0 h1' h2' h3' BV
                obtain ⟨z, hz⟩ : ∃ z, BitVec.setWidth 32 (0#8) ||| BitVec.setWidth 32 (0#8) <<< 8 ||| BitVec.setWidth 32 (0#8) <<< 16 ||| BitVec.setWidth 32 (0#8) <<< 24 = z := ⟨_, rfl⟩
                have HZ := Lib.hid hz
                have HJ := Lib.hid hjz; clear hjz hz
                go_region
                go_wp2
                go_roundw
                case rel =>
                  have hv := HM.out; have hj3 := HJ.out
                  have hb5 := gr_tr B4.out (gr_drew wr)
                  exact ⟨tt + 1, m + j, by omega, by go_num, by omega, rfl, rfl, V3.out.below hb5, Lib.hid (RW3.out.below hb5), gr_tr B3.out hb5⟩
                case measure => simp [intOf]; omega
            · go_wp2
              go_roundw
              case rel =>
                have hv := HM.out
                exact ⟨tt + 1, m + j, by omega, by go_num, by omega, rfl, rfl, V3.out.below B4.out, Lib.hid (RW3.out.below B4.out), gr_tr B3.out B4.out⟩
              case measure => simp [intOf]; omega
        · obtain rfl : tt = 5 := by omega
          obtain rfl : m = k := by have := HM.out; omega
          go_wp2_with (go_at_call 11; go_loud (refine (known_any _).mono ?_; rintro r w5 ⟨rfl, hw⟩; have D := Lib.hid hw; clear hw))
          go_ret
          exact ⟨rfl, gr_tr B2.out D.out⟩
theorem lawWalks (a b : Int) (w : World) {p q : Prop} (_ : p) (_ : q) :
    Calls Try.prog 5 #[.int .i64 a, .int .i64 b] w fun e w' => e = .returned (.bool true) ∧ Below w.heap.size w w' := by
  by_cases h : a < 0 ∨ 3000 < a ∨ b < 1 ∨ 1000 < b
  · exact lawWalks_no a b w h
  · obtain ⟨c, rfl⟩ := Int.eq_ofNat_of_zero_le (show 0 ≤ a by omega)
    obtain ⟨d, rfl⟩ := Int.eq_ofNat_of_zero_le (show 0 ≤ b by omega)
    exact lawWalks_yes c d w (by omega) (by omega) (by omega)
end Go.Proofs.Ytccllneifkeimaa
